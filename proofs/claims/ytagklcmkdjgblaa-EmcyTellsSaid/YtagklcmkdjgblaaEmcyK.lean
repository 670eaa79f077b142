/- Raise: an error is there. -/
import Derived.Test.YtagklcmkdjgblaaEmcyJ
namespace Go.Proofs.Ytagklcmkdjgblaa.Emcy
open Go.RowKit Go.Proofs.Ytagklcmkdjgblaa.Own
def Tr.ex (x : Tr) : Ex := ⟨x.x0, x.x1, x.x2, x.x3, x.x4⟩
def Tl.raise (t : Tl) (x : Tr) : Bool × Tl :=
  if x.code < 256 ∨ 0 ≤ findF x.code t.now 0 then (false, t) else (true, ({ t with now := t.now ++ [x], hist := (x :: t.hist).take t.most.toNat }).tells x.code x.ex)
theorem own_take {w : World} {e : TypeId} {s : Nat} {A : Option Addr} {n c : Nat} {xs : List Value} (h : w.ownsRow 0 e s (.slice A n c) n xs) (m : Nat) (hm : m ≤ n) : w.ownsRow 0 e s (.slice A m c) m (xs.take (m * s)) := by
  obtain ⟨hl, ⟨hv, h0⟩ | ⟨g, cap, cur, hv, hb, hh, h1, h2, h3, h4⟩⟩ := h
  · simp only [Value.slice.injEq] at hv
    obtain ⟨rfl, rfl, rfl⟩ := hv
    obtain rfl : m = 0 := by omega
    refine ⟨by simp, .inl ⟨rfl, rfl⟩⟩
  · simp only [Value.slice.injEq, true_and] at hv
    obtain ⟨rfl, rfl⟩ := hv
    have hms : m * s ≤ n * s := Nat.mul_le_mul_right _ hm
    refine ⟨by rw [List.length_take, hl]; omega, .inr ⟨g, c, cur, rfl, hb, hh, by omega, h2, h3, ?_⟩⟩
    rw [← h4, List.take_take]
    congr 1
    omega
/-- Behind a piece of Raise: a teller, and the error that came. -/
def Mid (w : World) (S : Nat → Prop) (g : Nat) (t' : Tl) (x : Tr) (b : Nat) (wx : World) : Prop :=
  b < wx.heap.size ∧ Blk wx b x.cells.toArray 33 ∧ (∃ S1, IsT wx S1 g t' ∧ ¬ S1 b ∧ (∀ k, S1 k → S k ∨ (w.heap.size ≤ k ∧ k < wx.heap.size)) ∧ Keep S w wx)
set_option maxRecDepth 100000 in
set_option maxHeartbeats 8000000 in
theorem Raise_any {w : World} {S : Nat → Prop} {g : Nat} {t : Tl} (h : IsT w S g t) (hsw : ∀ k, S k → k < w.heap.size) (hw : ∀ x ∈ t.now, x.wf) (hl : t.now.length + 1 ≤ 17592186044416) (hf : t.fr.length ≤ 16) (hm0 : 1 ≤ t.most) (hm1 : t.most ≤ 254) (hh : (t.hist.length : Int) ≤ t.most) (x : Tr) (hx : x.wf) :
    Calls Try.prog 8 #[.pointer (some ⟨g, 0, none⟩), x.v] w (BoolPost w S g (t.raise x)) := by
  have H := Lib.hid h
  have HW := Lib.hid hw
  have HX := Lib.hid hx
  have HSw := Lib.hid hsw
  unfold Tr.wf at hx
  have x0 := hx.1
  have x1 := hx.2.1
  obtain ⟨An, cn, Ah, ch, Af, cf, hv⟩ := h
  have glt := hv.blk.lt
  have HV := Lib.hid hv
  obtain ⟨n, hn⟩ : ∃ n, n = t.now.length := ⟨_, rfl⟩
  have HN := Lib.hid hn
  have hl' : n + 1 ≤ 17592186044416 := by omega
  unfold Tr.v
  clear hx hv hsw hw hn
  by_cases hc : x.code < 256
  · have HE : Hid (t.raise x = (false, t)) := Lib.hid (by unfold Tl.raise; rw [if_pos (.inl hc)])
    rw [HE.out]
    have hc2 : x.code / 256 = 0 := by omega
    have hc3 : (x.code / 256 == 0) = true := by simp [hc2]
    clear hc hc2
    go_enter Try.func8, Try.ntmps8
    go_wp2_with fail
    go_ret
    exact ⟨rfl, IsT.more (H.out.old ((Keep.refl Zero w).alloc _)) (fun k hk => .inl hk), (Keep.refl _ _).alloc _⟩
  · have hc2 : ¬ x.code / 256 = 0 := by omega
    have hc3 : (x.code / 256 == 0) = false := by simp [hc2]
    clear hc2
    by_cases hfd : 0 ≤ findF x.code t.now 0
    · have HE : Hid (t.raise x = (false, t)) := Lib.hid (by unfold Tl.raise; rw [if_pos (.inr hfd)])
      rw [HE.out]
      obtain ⟨i, hi⟩ : ∃ i, i = findF x.code t.now 0 := ⟨_, rfl⟩
      have HI := Lib.hid hi
      rw [← hi] at hfd
      clear hc hi
      go_enter Try.func8, Try.ntmps8
      go_wp2_with fail
      refine (at_any (H.out.old ((Keep.refl Zero w).alloc _)) x.code (by omega)).mono ?_
      rintro e w1 ⟨rfl, hk⟩
      rw [← HI.out]
      have HK := Lib.hid hk
      clear hk
      go_wp2_with fail
      go_ret
      exact ⟨rfl, IsT.more (H.out.old (((Keep.refl Zero w).alloc _).trans HK.out (fun i hi => hi.elim))) (fun k hk => .inl hk), (((Keep.refl Zero w).alloc _).trans HK.out (fun i hi => hi.elim)).mono (fun _ h => h.elim)⟩
    · have HE : Hid (t.raise x = (true, ({ t with now := t.now ++ [x], hist := (x :: t.hist).take t.most.toNat }).tells x.code x.ex)) := Lib.hid (by unfold Tl.raise; rw [if_neg (fun h => h.elim hc hfd)])
      rw [HE.out]
      obtain ⟨r, hr⟩ : ∃ r, r = (true, ({ t with now := t.now ++ [x], hist := (x :: t.hist).take t.most.toNat }).tells x.code x.ex) := ⟨_, rfl⟩
      have HRr := Lib.hid hr
      rw [← hr]
      obtain ⟨i, hi⟩ : ∃ i, i = findF x.code t.now 0 := ⟨_, rfl⟩
      have HI := Lib.hid hi
      rw [← hi] at hfd
      have hfd2 : decide (0 ≤ i) = false := decide_eq_false hfd
      clear hc hi hr
      go_enter Try.func8, Try.ntmps8
      go_wp2_with fail
      refine (at_any (H.out.old ((Keep.refl Zero w).alloc _)) x.code (by omega)).mono ?_
      rintro e w1 ⟨rfl, hk⟩
      rw [← HI.out]
      have HK := Lib.hid (((Keep.refl Zero w).alloc (.cells x.cells.toArray 33)).trans hk (fun i hi => hi.elim))
      have HBx : Hid (Blk w1 w.heap.size x.cells.toArray 33) := Lib.hid (Blk.keep (Blk.new w x.cells.toArray 33) hk id)
      clear hk
      have hbx : w.heap.size < w1.heap.size := HBx.out.lt
      have HV1 := Lib.hid (HV.out.old HK.out)
      have g3 : w1.cell? ⟨g, 3, none⟩ = some (.slice An n cn) := by rw [HN.out]; exact HV1.out.blk.cell 3
      have g1 : g < w1.heap.size := HV1.out.blk.lt
      have z0 : w1.cell? ⟨w.heap.size, 0, none⟩ = some (.int .u16 x.code) := (HBx.out).cell 0
      have z1 : w1.cell? ⟨w.heap.size, 1, none⟩ = some (.int .u8 x.reg) := (HBx.out).cell 1
      have z2 : w1.cell? ⟨w.heap.size, 2, none⟩ = some (.int .u8 x.x0) := (HBx.out).cell 2
      have z3 : w1.cell? ⟨w.heap.size, 3, none⟩ = some (.int .u8 x.x1) := (HBx.out).cell 3
      have z4 : w1.cell? ⟨w.heap.size, 4, none⟩ = some (.int .u8 x.x2) := (HBx.out).cell 4
      have z5 : w1.cell? ⟨w.heap.size, 5, none⟩ = some (.int .u8 x.x3) := (HBx.out).cell 5
      have z6 : w1.cell? ⟨w.heap.size, 6, none⟩ = some (.int .u8 x.x4) := (HBx.out).cell 6
      go_upto_region 3 with fail
      go_cut [] (fun wx => Mid w S g { t with now := t.now ++ [x] } x w.heap.size wx)
      case first =>
        go_wp2_with fail
        have HTZ : Hid (IsTv (w1.drew.alloc (.cells x.cells.toArray 33)) S g t An cn Ah ch Af cf) := Lib.hid (HV1.out.old ((Keep.refl Zero w1).drew.alloc _))
        have HKZ : Hid (Keep Zero w (w1.drew.alloc (.cells x.cells.toArray 33))) := Lib.hid (HK.out.drew.alloc _)
        have HBZ : Hid (Blk (w1.drew.alloc (.cells x.cells.toArray 33)) w.heap.size x.cells.toArray 33) := Lib.hid (HBx.out.drew.alloc _)
        have HOY : Hid ((w1.drew.alloc (.cells x.cells.toArray 33)).ownsRow 0 33 7 (.slice An n cn) n (flat t.now)) := Lib.hid (by
          rw [HN.out]
          exact HTZ.out.now)
        go_region_law (refine step_appF rfl (.tmp 20) (.tmp 22) 22 rfl 33 trZ 7 8 under22 info33 rfl (by decide) (.slice An n cn) n (flat t.now) rfl HOY.out ⟨w1.heap.size, 0, none⟩ 1 1 x.cells rfl rfl (Row.blk (Blk.new w1.drew x.cells.toArray 33) (fun i v hi => by simpa using hi)) (cells_one x) (by unfold maxLen; omega) (by omega) ?_; intro v6 w6 hown6 hgr6 hfr6; obtain ⟨A6, c6, rfl⟩ := own_slice hown6; have hb6 := Blk.grown HTZ.out.blk hgr6 (fun e => by obtain ⟨a, ha, e2⟩ := own_in e; exact (HTZ.out.sn a ha).2 e2); have y6 := hb6.cell 3; have f6 := hb6.frozen 3; have H6 := Lib.hid (And.intro hown6 (And.intro hgr6 hfr6)); clear hown6 hgr6 hfr6 hb6)
        all_goals
          have hlen : (t.now ++ [x]).length = n + 1 := by rw [List.length_append, HN.out]; rfl
          have hp := HTZ.out.put3 (S' := fun k => S k ∨ (w1.heap.size ≤ k ∧ k < (w6.setCell ⟨g, 3, none⟩ (.slice A6 (n + 1) c6)).heap.size)) (w1 := w6) (A := A6) (c := c6) (l := t.now ++ [x]) (by rw [← HN.out]; exact H6.out.2.1) (by rw [hlen, flat_append, flat_one]; exact H6.out.1) (by rw [hlen, ← HN.out]; exact H6.out.2.2) (fun k hk => .inl hk) (fun a ha hl => .inr ⟨by
            have := hl
            simp at this
            omega, by
            have := (own_addr H6.out.1 a ha).2
            simpa using this⟩)
          rw [hlen] at hp
          have hrow : ∀ k, (Value.slice An n cn).ownBlock = some k → S k := fun k hk => by
            obtain ⟨a, ha, rfl⟩ := own_in hk
            exact (HTZ.out.sn a ha).1
          have HM : Hid (Mid w S g { t with now := t.now ++ [x] } x w.heap.size (w6.setCell ⟨g, 3, none⟩ (.slice A6 (n + 1) c6))) := Lib.hid (by
            have hB6 : Blk (w6.setCell ⟨g, 3, none⟩ (.slice A6 (n + 1) c6)) w.heap.size x.cells.toArray 33 := Blk.far (Blk.grown HBZ.out H6.out.2.1 (fun e => by have := HSw.out _ (hrow _ e); omega)) (by simp only; omega) _
            refine ⟨hB6.lt, hB6, _, ⟨_, _, _, _, _, _, hp⟩, ?_, fun k hk => hk.elim .inl (fun h => .inr ⟨by omega, h.2⟩), ?_⟩
            · rintro (h | h)
              · have := HSw.out _ h; omega
              · omega
            · exact ((HKZ.out.mono (fun i hi => hi.elim)).trans (keep_of_grown (S := S) H6.out.2.1 hrow) (fun i hi => .inl hi)).set (.inl HV.out.sg) _)
          clear hp hlen hrow y6 f6
          go_wp2_with fail
          go_meet
          exact HM.out
      case rest =>
        clear HK HBx HV1 g3 g1 hbx z0 z1 z2 z3 z4 z5 z6
        obtain ⟨w2, hw2⟩ : ∃ w2, w2 = wc := ⟨_, rfl⟩
        subst hw2
        have HM := Lib.hid hcut
        clear hcut
        obtain ⟨hb2, hB2, S1, hI, hns, hS1, hK2⟩ := HM.out
        obtain ⟨An2, cn2, Ah2, ch2, Af2, cf2, hv2⟩ := hI
        have HV2 := Lib.hid hv2
        have HB2 := Lib.hid hB2
        have HS1 := Lib.hid (And.intro hns (And.intro hS1 hK2))
        obtain ⟨m, hm⟩ : ∃ m, m = t.hist.length := ⟨_, rfl⟩
        have HMl := Lib.hid hm
        have g4 : w2.cell? ⟨g, 4, none⟩ = some (.slice Ah2 m ch2) := by rw [hm]; exact hv2.blk.cell 4
        have g2 : g < w2.heap.size := hv2.blk.lt
        have hmb : m ≤ 254 := by omega
        have z0 : w2.cell? ⟨w.heap.size, 0, none⟩ = some (.int .u16 x.code) := (HB2.out).cell 0
        have z1 : w2.cell? ⟨w.heap.size, 1, none⟩ = some (.int .u8 x.reg) := (HB2.out).cell 1
        have z2 : w2.cell? ⟨w.heap.size, 2, none⟩ = some (.int .u8 x.x0) := (HB2.out).cell 2
        have z3 : w2.cell? ⟨w.heap.size, 3, none⟩ = some (.int .u8 x.x1) := (HB2.out).cell 3
        have z4 : w2.cell? ⟨w.heap.size, 4, none⟩ = some (.int .u8 x.x2) := (HB2.out).cell 4
        have z5 : w2.cell? ⟨w.heap.size, 5, none⟩ = some (.int .u8 x.x3) := (HB2.out).cell 5
        have z6 : w2.cell? ⟨w.heap.size, 6, none⟩ = some (.int .u8 x.x4) := (HB2.out).cell 6
        clear hv2 hB2 hns hS1 hK2 HM hm
        go_upto_region 4 with fail
        go_cut [] (fun wx => Mid w S g { t with now := t.now ++ [x], hist := x :: t.hist } x w.heap.size wx)
        case first =>
          go_wp2_with fail
          have HBZ : Hid (Blk (w2.drew.alloc (.cells x.cells.toArray 33)) w.heap.size x.cells.toArray 33) := Lib.hid (HB2.out.drew.alloc _)
          have HTZ : Hid (IsTv (w2.drew.alloc (.cells x.cells.toArray 33)) S1 g { t with now := t.now ++ [x] } An2 cn2 Ah2 ch2 Af2 cf2) := Lib.hid (HV2.out.old ((Keep.refl Zero w2).drew.alloc _))
          have HKZ : Hid (Keep S w (w2.drew.alloc (.cells x.cells.toArray 33))) := Lib.hid (HS1.out.2.2.drew.alloc _)
          have HOY : Hid ((w2.drew.alloc (.cells x.cells.toArray 33)).ownsRow 0 33 7 (.slice Ah2 m ch2) m (flat t.hist)) := Lib.hid (by
            rw [HMl.out]
            exact HTZ.out.hist)
          go_region_law (go_simp; go_at_call 25; refine (Insert_any (w := w2.drew.alloc (.cells x.cells.toArray 33)) (v := .slice Ah2 m ch2) (n := m) (xs := flat t.hist) (by omega) HOY.out (flat_one_cell _) x w2.heap.size (Blk.new w2.drew _ _) (fun e => by obtain ⟨a, ha, e2⟩ := own_in e; have := (own_addr HV2.out.hist a ha).2; omega)).mono ?_; rintro e w6 ⟨A6, c6, rfl, hown6, hfr6, hgr6⟩; have hb6 := Blk.grown HTZ.out.blk hgr6 (fun e => by obtain ⟨a, ha, e2⟩ := own_in e; exact (HTZ.out.sh a ha).2.1 e2); have y6 := hb6.cell 4; have f6 := hb6.frozen 4; have H6 := Lib.hid (And.intro hown6 (And.intro hgr6 hfr6)); clear hown6 hgr6 hfr6 hb6)
          all_goals
            have hlen : (x :: t.hist).length = m + 1 := by rw [List.length_cons, HMl.out]
            have hp := HTZ.out.put4 (S' := fun k => S1 k ∨ (w2.heap.size ≤ k ∧ k < (w6.setCell ⟨g, 4, none⟩ (.slice A6 (m + 1) c6)).heap.size)) (w1 := w6) (A := A6) (c := c6) (l := x :: t.hist) (by simp only; rw [← HMl.out]; exact H6.out.2.1) (by rw [hlen, flat_cons]; exact H6.out.1) (by simp only; rw [hlen, ← HMl.out]; exact H6.out.2.2) (fun k hk => .inl hk) (fun a ha hl => .inr ⟨by
              have := hl
              simp at this
              omega, by
              have := (own_addr H6.out.1 a ha).2
              simpa using this⟩)
            rw [hlen] at hp
            have hrow : ∀ k, (Value.slice Ah2 m ch2).ownBlock = some k → S1 k := fun k hk => by
              obtain ⟨a, ha, rfl⟩ := own_in hk
              exact (HTZ.out.sh a ha).1
            have HM : Hid (Mid w S g { t with now := t.now ++ [x], hist := x :: t.hist } x w.heap.size (w6.setCell ⟨g, 4, none⟩ (.slice A6 (m + 1) c6))) := Lib.hid (by
              have hB6 : Blk (w6.setCell ⟨g, 4, none⟩ (.slice A6 (m + 1) c6)) w.heap.size x.cells.toArray 33 := Blk.far (Blk.grown HBZ.out H6.out.2.1 (fun e => HS1.out.1 (hrow _ e))) (by simp only; omega) _
              have hsz : (w2.drew.alloc (.cells x.cells.toArray 33)).heap.size ≤ w6.heap.size := H6.out.2.1.size
              have hsz2 : w2.heap.size ≤ w6.heap.size := by simp at hsz; omega
              refine ⟨hB6.lt, hB6, _, ⟨_, _, _, _, _, _, hp⟩, ?_, fun k hk => ?_, ?_⟩
              · rintro (h | h)
                · exact HS1.out.1 h
                · omega
              · rcases hk with hk | hk
                · rcases HS1.out.2.1 k hk with h | h
                  · exact .inl h
                  · exact .inr ⟨h.1, by simp; omega⟩
                · exact .inr ⟨by omega, hk.2⟩
              · refine (HKZ.out.trans (keep_of_grown (S := S1) H6.out.2.1 hrow) (fun i hi => ?_)).set (.inl HV.out.sg) _
                rcases HS1.out.2.1 i hi with h | h
                · exact .inl h
                · exact .inr h.1)
            clear hp hlen hrow y6 f6
            go_wp2_with fail
            go_meet
            exact HM.out
        case rest =>
          clear HV2 HB2 HS1 g4 g2 hb2 z0 z1 z2 z3 z4 z5 z6
          obtain ⟨w3, hw3⟩ : ∃ w3, w3 = wc := ⟨_, rfl⟩
          subst hw3
          have HM := Lib.hid hcut
          clear hcut
          obtain ⟨hb3, hB3, S3, hI, hns, hS3, hK3⟩ := HM.out
          obtain ⟨An3, cn3, Ah3, ch3, Af3, cf3, hv3⟩ := hI
          have HV3 := Lib.hid hv3
          have HB3 := Lib.hid hB3
          have HS3 := Lib.hid (And.intro hns (And.intro hS3 hK3))
          have g4 : w3.cell? ⟨g, 4, none⟩ = some (.slice Ah3 (m + 1) ch3) := by
            have h := hv3.blk.cell 4
            rw [HMl.out]
            exact h
          have g0 : w3.cell? ⟨g, 0, none⟩ = some (.int .i64 t.most) := hv3.blk.cell 0
          have f4 := hv3.blk.frozen 4
          have g3 : g < w3.heap.size := hv3.blk.lt
          have hle := (own_le hv3.hist).1
          simp only [List.length_cons] at hle
          have hmc : m + 1 ≤ ch3 := by rw [HMl.out]; exact hle
          have hcx := (own_le hv3.hist).2.1
          clear hv3 hB3 hns hS3 hK3 HM hle
          obtain ⟨K, hK⟩ : ∃ K : Nat, (K : Int) = t.most := ⟨t.most.toNat, by omega⟩
          rw [← hK] at g0
          have hm0' : 1 ≤ K := by omega
          have hm1' : K ≤ 254 := by omega
          have hmK : m ≤ K := by rw [HMl.out]; omega
          have HKK := Lib.hid hK
          clear hK hm0 hm1 hh
          have hmi0 : 0 ≤ min ((m : Int) + 1) (K : Int) := by omega
          have hmi1 : min ((m : Int) + 1) (K : Int) ≤ (ch3 : Int) := by omega
          obtain ⟨q, hq⟩ : ∃ q, q = (min ((m : Int) + 1) (K : Int)).toNat := ⟨_, rfl⟩
          have HQ : Hid (q = (min ((m : Int) + 1) (K : Int)).toNat ∧ q = min (m + 1) K) := Lib.hid ⟨hq, by omega⟩
          clear hq
          go_upto_region 5 with fail
          go_cut [] (fun wx => Mid w S g { t with now := t.now ++ [x], hist := (x :: t.hist).take K } x w.heap.size wx)
          case first =>
            go_region
            all_goals
              have HM : Hid (Mid w S g { t with now := t.now ++ [x], hist := (x :: t.hist).take K } x w.heap.size (w3.setCell ⟨g, 4, none⟩ (.slice Ah3 q ch3)).drew) := Lib.hid (by
                have hl1 : ((x :: t.hist).take K).length = q := by rw [List.length_take, List.length_cons, ← HMl.out, HQ.out.2, Nat.min_comm]
                have ht := own_take HV3.out.hist q (by rw [HQ.out.2, List.length_cons, ← HMl.out]; omega)
                rw [show (flat ({ t with now := t.now ++ [x], hist := x :: t.hist } : Tl).hist).take (q * 7) = flat ((x :: t.hist).take K) by
                  rw [flat_take]
                  congr 1
                  show (x :: t.hist).take q = (x :: t.hist).take K
                  rw [HQ.out.2, HMl.out, ← List.length_cons (a := x), Nat.min_comm, ← List.take_take, List.take_length]] at ht
                have hp := HV3.out.put4 (S' := S3) (w1 := w3) (A := Ah3) (c := ch3) (l := (x :: t.hist).take K) (World.grownBy.refl w3 _) (by rw [hl1]; exact ht) (fun k hk => .inl (by rw [hl1] at hk; obtain ⟨a, ha, e⟩ := own_in hk; subst ha; simpa [Value.ownBlock] using e)) (fun _ h => h) (fun a ha hl => absurd (own_addr HV3.out.hist a ha).2 (Nat.not_lt.2 hl))
                rw [hl1] at hp
                have hB6 : Blk (w3.setCell ⟨g, 4, none⟩ (.slice Ah3 q ch3)).drew w.heap.size x.cells.toArray 33 := Blk.drew (Blk.far HB3.out (by simp only; omega) _)
                exact ⟨hB6.lt, hB6, S3, ⟨_, _, _, _, _, _, hp.old (Keep.drew (Keep.refl Zero _))⟩, HS3.out.1, fun k hk => (HS3.out.2.1 k hk).elim .inl (fun h => .inr ⟨h.1, by simpa using h.2⟩), (HS3.out.2.2.set (.inl HV.out.sg) _).drew⟩)
              rw [HQ.out.1] at HM
              go_wp2_with fail
              go_meet
              exact HM.out
          case rest =>
            clear HV3 HB3 HS3 g4 g0 f4 g3 hb3
            obtain ⟨w4, hw4⟩ : ∃ w4, w4 = wc := ⟨_, rfl⟩
            subst hw4
            have HM := Lib.hid hcut
            clear hcut
            obtain ⟨hb4, hB4, S4, hI, hns, hS4, hK4⟩ := HM.out
            have HI4 := Lib.hid hI
            have HB4 := Lib.hid hB4
            have HS4 := Lib.hid (And.intro hns (And.intro hS4 hK4))
            have z0 : w4.cell? ⟨w.heap.size, 0, none⟩ = some (.int .u16 x.code) := (HB4.out).cell 0
            have z1 : w4.cell? ⟨w.heap.size, 1, none⟩ = some (.int .u8 x.reg) := (HB4.out).cell 1
            have z2 : w4.cell? ⟨w.heap.size, 2, none⟩ = some (.int .u8 x.x0) := (HB4.out).cell 2
            have z3 : w4.cell? ⟨w.heap.size, 3, none⟩ = some (.int .u8 x.x1) := (HB4.out).cell 3
            have z4 : w4.cell? ⟨w.heap.size, 4, none⟩ = some (.int .u8 x.x2) := (HB4.out).cell 4
            have z5 : w4.cell? ⟨w.heap.size, 5, none⟩ = some (.int .u8 x.x3) := (HB4.out).cell 5
            have z6 : w4.cell? ⟨w.heap.size, 6, none⟩ = some (.int .u8 x.x4) := (HB4.out).cell 6
            clear hI hB4 hns hS4 hK4 HM
            have HWx : Hid (∀ y ∈ t.now ++ [x], y.wf) := Lib.hid (fun y hy => by
              rcases List.mem_append.1 hy with h | h
              · exact HW.out y h
              · rw [List.mem_singleton.1 h]
                exact HX.out)
            have HSz : Hid (∀ k, S4 k → k < w4.heap.size) := Lib.hid (fun k hk => by
              rcases HS4.out.2.1 k hk with h | h
              · exact Nat.lt_of_lt_of_le (HSw.out k h) HS4.out.2.2.size
              · exact h.2)
            go_wp2_with fail
            refine (tells_any (w := w4) (S := S4) (g := g) (t := { t with now := t.now ++ [x], hist := (x :: t.hist).take K }) HI4.out HSz.out HWx.out (by simp only [List.length_append, List.length_cons, List.length_nil]; omega) hf x.code x0 x1 x.ex).mono ?_
            rintro e w5 ⟨rfl, hp⟩
            have HP := Lib.hid hp.out
            clear hp
            go_wp2_with fail
            go_ret
            rw [HRr.out, show t.most.toNat = K by have := HKK.out; omega]
            refine ⟨rfl, IsT.more HP.out.1 (fun k hk => ?_), HS4.out.2.2.trans HP.out.2 (fun i hi => (HS4.out.2.1 i hi).elim .inl (fun h => .inr h.1))⟩
            rcases hk with hk | hk
            · rcases HS4.out.2.1 k hk with h | h
              · exact .inl h
              · exact .inr ⟨h.1, Nat.lt_of_lt_of_le h.2 HP.out.2.size⟩
            · exact .inr ⟨Nat.le_trans HS4.out.2.2.size hk.1, hk.2⟩
end Go.Proofs.Ytagklcmkdjgblaa.Emcy
