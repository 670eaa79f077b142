/- EmcyAll: the walk of the law's function. -/
import Derived.Test.YtagklcmkdjgblaaEmcyO
import Derived.Laws.Tables
namespace Go.Proofs.Ytagklcmkdjgblaa.Emcy
open Go.RowKit Go.Proofs.Ytagklcmkdjgblaa.Own
/-- A frame tells of these errors. -/
def good (f : Fr) (t : Tl) : Prop := ((readF f).code = 0 ↔ t.now = []) ∧ f.b2 = regF t.now
def Pend (t : Tl) (last : Fr) (any : Bool) (fs : List Fr) : Prop :=
  match fs.getLast? with
  | none => any = true → good last t
  | some f => good f t
theorem pend_snoc (t : Tl) (last : Fr) (any : Bool) (fs : List Fr) (f : Fr) (h : good f t) : Pend t last any (fs ++ [f]) := by
  unfold Pend
  rw [List.getLast?_concat]
  exact h
theorem pend_pop {t : Tl} {last : Fr} {any : Bool} {f : Fr} {r : List Fr} (h : Pend t last any (f :: r)) : Pend t f true r := by
  unfold Pend at *
  rcases r with _ | ⟨f2, r⟩
  · exact fun _ => h
  · rw [List.getLast?_cons_cons] at h
    cases hl : (f2 :: r).getLast? with
    | none => simp at hl
    | some z =>
      rw [hl] at h
      exact h
theorem read_frame (c r : Int) (x : Ex) (_c0 : 0 ≤ c) (_c1 : c ≤ 65535) : (readF (frameF c r x)).code = c ∧ (frameF c r x).b2 = r := by
  refine ⟨?_, rfl⟩
  show c % 256 + c / 256 * 256 = c
  omega
theorem raise_pend {t : Tl} {x : Tr} (hx : x.wf) (hf : t.fr = []) {last : Fr} {any : Bool} (hp : Pend t last any t.fr) :
    Pend (t.raise x).2 last any (t.raise x).2.fr ∧ (t.raise x).2.fr.length = (if (t.raise x).1 then 1 else 0) := by
  unfold Tl.raise
  split
  · exact ⟨hp, by rw [hf]; rfl⟩
  · rename_i hn
    have hx1 := hx
    unfold Tr.wf at hx1
    have hb : 256 ≤ x.code := by
      rcases Int.lt_or_le x.code 256 with h1 | h1
      · exact absurd (.inl h1) hn
      · exact h1
    have e : (({ t with now := t.now ++ [x], hist := (x :: t.hist).take t.most.toNat } : Tl).tells x.code x.ex).fr = [] ++ [frameF x.code (regF (t.now ++ [x])) x.ex] := by
      unfold Tl.tells
      simp only [hf]
      rfl
    have hr := read_frame x.code (regF (t.now ++ [x])) x.ex (by omega) (by omega)
    simp only
    rw [e]
    refine ⟨pend_snoc _ _ _ _ _ ⟨?_, hr.2⟩, rfl⟩
    rw [hr.1]
    constructor
    · intro h; omega
    · intro h
      have : t.now ++ [x] = [] := h
      simp at this
theorem clear_pend {t : Tl} {m i : Int} {N : Nat} (ho : Ok m i N t) (c : Int) (hf : t.fr.length ≤ 2) {last : Fr} {any : Bool} (hp : Pend t last any t.fr) :
    Pend (t.clear c).2 last any (t.clear c).2.fr ∧ (t.clear c).2.fr.length = t.fr.length + (if (t.clear c).1 then 1 else 0) := by
  unfold Tl.clear
  split
  · exact ⟨hp, rfl⟩
  · obtain ⟨l, hl⟩ : ∃ l, l = cut t.now (findF c t.now 0).toNat := ⟨_, rfl⟩
    have hw : ∀ x ∈ l, x.wf ∧ 256 ≤ x.code := fun x hx => ho.wf x (cut_mem (hl ▸ hx))
    have hh := headCode_wf hw
    have e : (({ t with now := l } : Tl).tells (headCode l) Ex.zero).fr = t.fr ++ [frameF (headCode l) (regF l) Ex.zero] := by
      unfold Tl.tells
      simp only
      rw [if_pos (by omega)]
    have hr := read_frame (headCode l) (regF l) Ex.zero hh.1 hh.2.1
    simp only
    rw [← hl, e]
    refine ⟨pend_snoc _ _ _ _ _ ⟨?_, hr.2⟩, by rw [List.length_append]; rfl⟩
    rw [hr.1]
    exact hh.2.2
theorem frame_cons {t : Tl} {f : Fr} {r : List Fr} (hq : t.quiet = 0) (hf : t.fr = f :: r) : t.frame = (f, true, { t with fr := r, quiet := t.inhibit }) := by
  unfold Tl.frame
  rw [if_neg (by omega), hf]
theorem frame_nil {t : Tl} (hf : t.fr = []) : t.frame = (Fr.zero, false, t) := by
  unfold Tl.frame
  split
  · rfl
  · rw [hf]
theorem raise_quiet' (t : Tl) (x : Tr) : (t.raise x).2.quiet = t.quiet := by
  unfold Tl.raise
  split <;> rfl
theorem clear_quiet' (t : Tl) (c : Int) : (t.clear c).2.quiet = t.quiet := by
  unfold Tl.clear
  split <;> rfl
theorem size35 : (Try.prog.info? 35).map (·.size) = some 8 := by
  obtain ⟨i, hi, _, hs, _⟩ := info_parts info35
  simp [hi, hs]
def Fr.wf (f : Fr) : Prop := 0 ≤ f.b0 ∧ f.b0 ≤ 255 ∧ 0 ≤ f.b1 ∧ f.b1 ≤ 255
/-- What holds within a round: a teller, the last frame at block b. -/
def St (w wr : World) (g b j : Nat) (t : Tl) (last : Fr) (any : Bool) : Prop :=
  LivX w wr g t (Own.One b) ∧ Ok 254 0 j t ∧ t.quiet = 0 ∧ Pend t last any t.fr ∧ Blk wr b last.cells.toArray 35 ∧ last.wf ∧ w.heap.size ≤ b
set_option maxRecDepth 100000 in
set_option maxHeartbeats 8000000 in
theorem all_walk (A : Option Addr) (ca : Nat) (l : List Tr) (B : Option Addr) (cb : Nat) (gs : List Int) (w : World) (hA : Trs w A l) (hl : l.length ≤ 17592186044000) (hwf : ∀ x ∈ l, x.wf)
    (hB : Row w B (ints .u8 gs)) (hgl : gs.length ≤ 1000000000000000) (hgs : ∀ x ∈ gs, 0 ≤ x ∧ x ≤ 255) :
    Calls Try.prog 4 #[.slice A l.length ca, .slice B gs.length cb] w fun e w' => e = .returned (.bool true) ∧ Keep Zero w w' := by
  have HA := Lib.hid hA
  have HWF := Lib.hid hwf
  have HB := Lib.hid hB
  have HGS := Lib.hid hgs
  obtain ⟨n, hn⟩ : ∃ n, n = l.length := ⟨_, rfl⟩
  have HN := Lib.hid hn
  obtain ⟨c, hc⟩ : ∃ c, c = gs.length := ⟨_, rfl⟩
  have HC := Lib.hid hc
  rw [← hn, ← hc]
  rw [← hn] at hl
  rw [← hc] at hgl
  clear hA hwf hB hgs hn hc
  go_enter Try.func4, Try.ntmps4
  go_wp2_with fail
  refine (New_x w (Keep.refl _ _) 254 0 (by decide) (by decide) (by decide)).mono ?_
  rintro e w1 ⟨g, rfl, hp⟩
  have HL1 := Lib.hid hp.out.1
  clear hp
  go_wp2_with fail
  have HW1 : Hid (w.heap.size ≤ w1.heap.size) := Lib.hid HL1.out.old.size
  have HS1 : Hid (St w (w1.alloc (.cells #[.int .u8 0, .int .u8 0, .int .u8 0, .int .u8 0, .int .u8 0, .int .u8 0, .int .u8 0, .int .u8 0] 35)) g w1.heap.size 0 ⟨254, 0, 0, [], [], []⟩ Fr.zero false) := Lib.hid (by
    have hx := LivX.other HL1.out ((Keep.refl Zero w1).alloc (.cells #[.int .u8 0, .int .u8 0, .int .u8 0, .int .u8 0, .int .u8 0, .int .u8 0, .int .u8 0, .int .u8 0] 35)) (fun i hi => hi.elim)
    exact ⟨hx.less (fun i hi => .inr (by have e : i = w1.heap.size := hi; rw [e]; simp)), Ok.new 254 0 (by decide) (by decide) (by decide) (by decide), rfl, (fun h => by cases h), Blk.new _ _ _, by unfold Fr.wf; decide, HW1.out⟩)
  clear HL1
  go_loopg [8, 9] n (fun k s8 s9 wr => ∃ (j : Nat) (any : Bool) (t : Tl) (last : Fr), j ≤ n ∧ k = n - j ∧ s9 = .int .i64 j ∧ s8 = .bool any ∧ St w wr g w1.heap.size j t last any ∧ t.fr = [])
  case atStart => exact ⟨0, false, _, Fr.zero, Nat.zero_le _, rfl, rfl, rfl, HS1.out, rfl⟩
  case round =>
    obtain ⟨j, any, t, last, hj, hk, rfl, rfl, hS, hfr⟩ := hrel
    have HS := Lib.hid hS
    have HFr := Lib.hid hfr
    have HM := Lib.hid hk
    clear HS1 hS hk hfr
    by_cases hlt : j < n
    · have h1 : (j : Int) < (n : Int) := by omega
      have h0 : (0 : Int) ≤ (j : Int) := by omega
      obtain ⟨x, hx⟩ : ∃ x, l[j]? = some x := ⟨l[j]'(by rw [← HN.out]; exact hlt), List.getElem?_eq_getElem _⟩
      obtain ⟨b1, o1, rfl, lb1, x0, x1, x2, x3, x4, x5, x6⟩ := Trs.pick (Row.keep HA.out (HS.out.1.old) (fun _ _ _ => id)) hx
      have HX := Lib.hid (HWF.out x (List.mem_of_getElem? hx))
      clear hx
      go_wp2_with fail
      refine (Raise_x HS.out.1 HS.out.2.1 (by omega) x HX.out).mono ?_
      rintro e w2 ⟨rfl, hp⟩
      obtain ⟨t2, ht2⟩ : ∃ t2, t2 = (t.raise x).2 := ⟨_, rfl⟩
      obtain ⟨b, hb⟩ : ∃ b, b = (t.raise x).1 := ⟨_, rfl⟩
      have hrp := raise_pend HX.out HFr.out HS.out.2.2.2.1
      rw [← ht2, ← hb] at hrp
      have HS2 : Hid (St w w2 g w1.heap.size (j + 1) t2 last any ∧ t2.fr.length = if b then 1 else 0) := Lib.hid ⟨⟨by rw [ht2]; exact hp.out.1, by rw [ht2]; exact HS.out.2.1.raise HX.out, by rw [ht2, raise_quiet']; exact HS.out.2.2.1, hrp.1, HS.out.2.2.2.2.1.keep hp.out.2 (fun h => h rfl), HS.out.2.2.2.2.2⟩, hrp.2⟩
      rw [← hb]
      clear hp x0 x1 x2 x3 x4 x5 x6 ht2 hb HS HFr hrp
      go_upto_if 38 with fail
      go_cut [10] (fun s10 wx => ∃ m : Nat, s10 = .int .i64 m ∧ m ≤ 1 ∧ St w wx g w1.heap.size (j + 1) t2 last any ∧ t2.fr.length = m)
      case first =>
        cases b with
        | true =>
          go_wp2_with fail
          go_meet
          exact ⟨1, rfl, by omega, HS2.out.1, HS2.out.2⟩
        | false =>
          go_wp2_with fail
          go_meet
          exact ⟨0, rfl, by omega, HS2.out.1, HS2.out.2⟩
      case rest =>
        obtain ⟨m, rfl, hm, hS, hm2⟩ := hcut
        have HS3 := Lib.hid hS
        have HM3 := Lib.hid hm2
        clear HS2 hS hm2 HX
        obtain ⟨w3, hw3⟩ : ∃ w3, w3 = wc := ⟨_, rfl⟩
        subst hw3
        go_upto_region 11 with fail
        go_cut [74] (fun s74 wx => ∃ (r : Bool) (t : Tl), s74 = .bool r ∧ St w wx g w1.heap.size (j + 1) t last any ∧ t.fr.length = m + (if r then 1 else 0))
        case first =>
          by_cases hc0 : 0 < c
          · have hci : (0 : Int) < (c : Int) := by omega
            have hml : j % c < c := Nat.mod_lt _ hc0
            obtain ⟨y, hy⟩ : ∃ y, gs[j % c]? = some y := ⟨gs[j % c]'(by rw [← HC.out]; exact hml), List.getElem?_eq_getElem _⟩
            obtain ⟨b2, o2, rfl, lb2, gb⟩ := (HB.out.keep HS3.out.1.old (fun _ _ _ => id)) (j % c) (.int .u8 y) (by rw [ints_get, hy]; rfl)
            obtain ⟨y0, y1⟩ := HGS.out y (List.mem_of_getElem? hy)
            obtain ⟨q, hq⟩ : ∃ q, q = j % c := ⟨_, rfl⟩
            rw [← hq] at hml gb
            have hm1 : (j : Int) % (c : Int) = (q : Int) := by rw [hq]; omega
            have hm2 : (j : Int).tmod (c : Int) = (q : Int) := by rw [Int.tmod_eq_emod_of_nonneg (by omega)]; exact hm1
            have hm3 : (q : Int) < (c : Int) := by omega
            have hcz : ¬ (c : Int) = 0 := by omega
            clear hy hq
            by_cases hy2 : y % 2 = 0
            · have hyb : (y % 2 == 0) = true := by simp [hy2]
              obtain ⟨Y, hY⟩ : ∃ Y : Nat, y / 2 = (Y : Int) := ⟨(y / 2).toNat, by omega⟩
              have hpl : Y % n < n := Nat.mod_lt _ (by omega)
              obtain ⟨z, hz⟩ : ∃ z, l[Y % n]? = some z := ⟨l[Y % n]'(by rw [← HN.out]; exact hpl), List.getElem?_eq_getElem _⟩
              obtain ⟨b1', o1', e', lb1', x0, x1, x2, x3, x4, x5, x6⟩ := Trs.pick (Row.keep HA.out (HS3.out.1.old) (fun _ _ _ => id)) hz
              cases e'
              obtain ⟨p, hp⟩ : ∃ p, p = Y % n := ⟨_, rfl⟩
              rw [← hp] at hpl x0
              have hp1 : (Y : Int) % (n : Int) = (p : Int) := by rw [hp]; omega
              have hp2 : (Y : Int).tmod (n : Int) = (p : Int) := by rw [Int.tmod_eq_emod_of_nonneg (by omega)]; exact hp1
              have hp3 : (p : Int) < (n : Int) := by omega
              have hnz : ¬ (n : Int) = 0 := by omega
              have hzw := HWF.out z (List.mem_of_getElem? hz)
              unfold Tr.wf at hzw
              have c0 := hzw.1
              have c1 := hzw.2.1
              clear hz hp hzw x1 x2 x3 x4 x5 x6 hy2
              go_wp2_with fail
              refine (Clear_x HS3.out.1 HS3.out.2.1 (by omega) z.code c0 c1).mono ?_
              rintro e w4 ⟨rfl, hp⟩
              have hcp := clear_pend HS3.out.2.1 z.code (by rw [HM3.out]; omega) HS3.out.2.2.2.1
              have HS4 : Hid (St w w4 g w1.heap.size (j + 1) (t2.clear z.code).2 last any ∧ (t2.clear z.code).2.fr.length = m + if (t2.clear z.code).1 then 1 else 0) := Lib.hid ⟨⟨hp.out.1, HS3.out.2.1.clear _, by rw [clear_quiet']; exact HS3.out.2.2.1, hcp.1, HS3.out.2.2.2.2.1.keep hp.out.2 (fun h => h rfl), HS3.out.2.2.2.2.2⟩, by rw [hcp.2, HM3.out]⟩
              clear hp hcp
              go_wp2_with fail
              go_meet
              exact ⟨(t2.clear z.code).1, _, rfl, HS4.out.1, HS4.out.2⟩
            · have hyb : (y % 2 == 0) = false := by simp; omega
              clear hy2
              go_wp2_with fail
              go_meet
              exact ⟨false, t2, rfl, HS3.out, HM3.out⟩
          · have hci : ¬ (0 : Int) < (c : Int) := by omega
            go_wp2_with fail
            go_meet
            exact ⟨false, t2, rfl, HS3.out, HM3.out⟩
        case rest =>
          obtain ⟨r, t3, rfl, hS, hm2⟩ := hcut
          have HS5 := Lib.hid hS
          have HM5 := Lib.hid hm2
          clear HS3 HM3 hS hm2
          obtain ⟨w5, hw5⟩ : ∃ w5, w5 = wc := ⟨_, rfl⟩
          subst hw5
          go_upto_if 74 with fail
          go_cut [10] (fun s10 wx => ∃ m : Nat, s10 = .int .i64 m ∧ m ≤ 2 ∧ St w wx g w1.heap.size (j + 1) t3 last any ∧ t3.fr.length = m)
          case first =>
            cases r with
            | true =>
              go_wp2_with fail
              go_meet
              exact ⟨m + 1, by go_num, by omega, HS5.out, HM5.out⟩
            | false =>
              go_wp2_with fail
              go_meet
              exact ⟨m, rfl, by omega, HS5.out, HM5.out⟩
          case rest =>
            clear HS5 HM5
            obtain ⟨q, rfl, hq, hS, hm2⟩ := hcut
            have HS6 := Lib.hid hS
            have HM6 := Lib.hid hm2
            clear hS hm2
            go_wp2_with fail
            obtain ⟨wo, hwo⟩ : ∃ x, x = wr := ⟨_, rfl⟩
            subst hwo
            go_loopg [8, 11] q (fun k s8 s11 wr => ∃ (p : Nat) (any : Bool) (t : Tl) (last : Fr), p ≤ q ∧ k = q - p ∧ s11 = .int .i64 p ∧ s8 = .bool any ∧ St w wr g w1.heap.size (j + 1) t last any ∧ t.fr.length + p = q)
            case atStart => exact ⟨0, any, t3, last, Nat.zero_le _, rfl, rfl, rfl, HS6.out, HM6.out⟩
            case round =>
              obtain ⟨p, any, t, last, hpq, hk, rfl, rfl, hS, hlen⟩ := hrel
              have HS := Lib.hid hS
              have HLn := Lib.hid hlen
              have HM7 := Lib.hid hk
              clear HS6 HM6 hS hlen hk
              by_cases hlt2 : p < q
              · have h3 : (p : Int) < (q : Int) := by omega
                obtain ⟨f, r, hfr⟩ : ∃ f r, t.fr = f :: r := by
                  have := HLn.out
                  cases h : t.fr with
                  | nil => rw [h] at this; simp at this; omega
                  | cons f r => exact ⟨f, r, rfl⟩
                have HFr := Lib.hid hfr
                have HFc := Lib.hid (frame_cons HS.out.2.2.1 hfr)
                clear hfr
                go_wp2_with fail
                refine (Frame_x HS.out.1 HS.out.2.1).mono ?_
                rintro e w8 ⟨rfl, hp⟩
                rw [HFc.out] at hp ⊢
                have hwb : w1.heap.size < w8.heap.size := (HS.out.2.2.2.2.1.keep hp.out.2 (fun h => h rfl)).lt
                have HB8 : Hid (Blk (w8.alloc (.cells f.cells.toArray 35)) w1.heap.size last.cells.toArray 35) := Lib.hid ((HS.out.2.2.2.2.1.keep hp.out.2 (fun h => h rfl)).alloc _)
                have HL8 : Hid (LivX w (w8.alloc (.cells f.cells.toArray 35)) g { t with fr := r, quiet := t.inhibit } (Own.One w1.heap.size)) := Lib.hid (hp.out.1.keep ((Keep.refl Zero w8).alloc _))
                have HO8 : Hid (Ok 254 0 (j + 1) { t with fr := r, quiet := t.inhibit }) := Lib.hid (by
                  have h := HS.out.2.1.frame
                  rw [HFc.out] at h
                  exact h)
                have hpp : Pend t f true r := by
                  have h := HS.out.2.2.2.1
                  rw [HFr.out] at h
                  exact pend_pop h
                have HR8 : Hid (({ t with fr := r, quiet := t.inhibit } : Tl).quiet = 0 ∧ Pend t f true r ∧ f.wf ∧ r.length + (p + 1) = q ∧ w.heap.size ≤ w1.heap.size) := Lib.hid ⟨HS.out.2.1.inh, hpp, HS.out.2.1.frwf f (by rw [HFr.out]; exact List.mem_cons_self ..), by
                  have h := HLn.out
                  rw [HFr.out] at h
                  simp only [List.length_cons] at h
                  omega, HS.out.2.2.2.2.2.2⟩
                clear hp HS HLn HFr HFc
                unfold Fr.v
                go_wp2_with (refine wpList_store_row rfl 35 (.tmp 7) (.tmp 89) rfl w1.heap.size #[.int .u8 f.b0, .int .u8 f.b1, .int .u8 f.b2, .int .u8 f.b3, .int .u8 f.b4, .int .u8 f.b5, .int .u8 f.b6, .int .u8 f.b7] rfl rfl 35 last.cells.toArray HB8.out size35 rfl (by simp [Value.oneCell']) ?_; obtain ⟨W9, hW9⟩ : ∃ x, x = (w8.alloc (.cells #[.int .u8 f.b0, .int .u8 f.b1, .int .u8 f.b2, .int .u8 f.b3, .int .u8 f.b4, .int .u8 f.b5, .int .u8 f.b6, .int .u8 f.b7] 35)).setRow w1.heap.size #[.int .u8 f.b0, .int .u8 f.b1, .int .u8 f.b2, .int .u8 f.b3, .int .u8 f.b4, .int .u8 f.b5, .int .u8 f.b6, .int .u8 f.b7] := ⟨_, rfl⟩; have HB9 : Hid (Blk W9 w1.heap.size f.cells.toArray 35) := Lib.hid (by rw [hW9]; exact setRow_blk HB8.out _); have HK9 : Hid (Keep (Own.One w1.heap.size) (w8.alloc (.cells f.cells.toArray 35)) W9) := Lib.hid (by rw [hW9]; exact setRow_keep _ _ _); rw [← hW9]; clear hW9)
                have HS9 := Lib.hid (And.intro ((LivX.other HL8.out HK9.out (fun i hi => by have e : i = w1.heap.size := hi; rw [e]; exact HR8.out.2.2.2.2)).less (fun i hi => .inl hi)) HB9.out)
                go_roundg (q - (p + 1))
                case measure => rw [HM7.out]; omega
                case rel => exact ⟨p + 1, true, _, f, by omega, rfl, by go_num, rfl, ⟨HS9.out.1, HO8.out, HR8.out.1, HR8.out.2.1, HS9.out.2, HR8.out.2.2.1, HR8.out.2.2.2.2⟩, HR8.out.2.2.2.1⟩
              · have h3 : ¬ (p : Int) < (q : Int) := by omega
                have HFn : Hid (t.fr = []) := Lib.hid (List.eq_nil_of_length_eq_zero (by have := HLn.out; omega))
                go_wp2_with fail
                refine (Frame_x HS.out.1 HS.out.2.1).mono ?_
                rintro e w8 ⟨rfl, hp⟩
                rw [frame_nil HFn.out] at hp ⊢
                have HS9 : Hid (St w (w8.alloc (.cells Fr.zero.cells.toArray 35)) g w1.heap.size (j + 1) t last any) := Lib.hid ⟨hp.out.1.keep ((Keep.refl Zero w8).alloc _), HS.out.2.1, HS.out.2.2.1, HS.out.2.2.2.1, (HS.out.2.2.2.2.1.keep hp.out.2 (fun h => h rfl)).alloc _, HS.out.2.2.2.2.2⟩
                clear hp HS
                rw [show Fr.zero.v = Value.agg #[.int .u8 0, .int .u8 0, .int .u8 0, .int .u8 0, .int .u8 0, .int .u8 0, .int .u8 0, .int .u8 0] from rfl]
                go_wp2_with fail
                go_roundg (n - (j + 1))
                case measure => rw [HM.out]; omega
                case rel => exact ⟨j + 1, any, t, last, by omega, rfl, by go_num, rfl, HS9.out, HFn.out⟩
    · have h1 : ¬ (j : Int) < (n : Int) := by omega
      cases any with
      | false =>
        go_wp2_with ((with_reducible refine (lives_any _).mono ?_); rintro e w' ⟨rfl, hk⟩)
        go_ret
        rename_i hk
        exact ⟨rfl, HS.out.1.old.trans hk.out (fun i hi => hi.elim)⟩
      | true =>
        have HG : Hid (good last t) := Lib.hid (by
          have h := HS.out.2.2.2.1
          rw [HFr.out] at h
          exact h rfl)
        have HB8 : Hid (Blk wr w1.heap.size last.cells.toArray 35) := Lib.hid HS.out.2.2.2.2.1
        have z0 : wr.cell? ⟨w1.heap.size, 0, none⟩ = some (.int .u8 last.b0) := HB8.out.cell 0
        have z1 : wr.cell? ⟨w1.heap.size, 1, none⟩ = some (.int .u8 last.b1) := HB8.out.cell 1
        have z2 : wr.cell? ⟨w1.heap.size, 2, none⟩ = some (.int .u8 last.b2) := HB8.out.cell 2
        have z3 : wr.cell? ⟨w1.heap.size, 3, none⟩ = some (.int .u8 last.b3) := HB8.out.cell 3
        have z4 : wr.cell? ⟨w1.heap.size, 4, none⟩ = some (.int .u8 last.b4) := HB8.out.cell 4
        have z5 : wr.cell? ⟨w1.heap.size, 5, none⟩ = some (.int .u8 last.b5) := HB8.out.cell 5
        have z6 : wr.cell? ⟨w1.heap.size, 6, none⟩ = some (.int .u8 last.b6) := HB8.out.cell 6
        have z7 : wr.cell? ⟨w1.heap.size, 7, none⟩ = some (.int .u8 last.b7) := HB8.out.cell 7
        obtain ⟨v, hv⟩ : ∃ v, v = last.b0 + last.b1 * 256 := ⟨_, rfl⟩
        have HV := Lib.hid hv
        obtain ⟨q, hq⟩ : ∃ q, q = t.now.length := ⟨_, rfl⟩
        have HQ := Lib.hid hq
        have hb : ∃ b : Bool, (v == 0) = b ∧ ((q : Int) == 0) = b := by
          have h := HG.out.1
          rw [show (readF last).code = v from hv.symm] at h
          by_cases hn : t.now = []
          · refine ⟨true, by simp [h.2 hn], ?_⟩
            rw [hq, hn]
            rfl
          · refine ⟨false, ?_, ?_⟩
            · have h2 : ¬ v = 0 := fun e => hn (h.1 e)
              simp [h2]
            · have h2 : q ≠ 0 := fun e => hn (List.eq_nil_of_length_eq_zero (by rw [← hq]; exact e))
              simp [h2]
        obtain ⟨b, hb1, hb2⟩ := hb
        clear hv hq
        have hbn : (b != b) = false := by simp
        have hf0 := field0
        have hf1 := field1
        go_wp2_with fail
        refine (Read_any last HS.out.2.2.2.2.2.1.1 HS.out.2.2.2.2.2.1.2.1 HS.out.2.2.2.2.2.1.2.2.1 HS.out.2.2.2.2.2.1.2.2.2 _).mono ?_
        rintro e w5 ⟨rfl, hk⟩
        unfold readF Tr.v
        rw [← HV.out]
        have HK5 := Lib.hid hk
        have HB9 := Lib.hid (HB8.out.keep hk id)
        clear hk z0 z1 z2 z3 z4 z5 z6 z7
        go_wp2_with fail
        refine (Now_l (HS.out.1.liv.keep HK5.out) HS.out.2.1 (by omega)).mono ?_
        rintro e w6 ⟨A6, c6, rfl, hp⟩
        rw [← HQ.out]
        have HK6 := Lib.hid (HK5.out.trans hp.out.2.1 (fun i hi => hi.elim))
        have HB10 := Lib.hid (HB9.out.keep hp.out.2.1 id)
        clear hp
        have z0 : w6.cell? ⟨w1.heap.size, 0, none⟩ = some (.int .u8 last.b0) := HB10.out.cell 0
        have z1 : w6.cell? ⟨w1.heap.size, 1, none⟩ = some (.int .u8 last.b1) := HB10.out.cell 1
        have z2 : w6.cell? ⟨w1.heap.size, 2, none⟩ = some (.int .u8 last.b2) := HB10.out.cell 2
        have z3 : w6.cell? ⟨w1.heap.size, 3, none⟩ = some (.int .u8 last.b3) := HB10.out.cell 3
        have z4 : w6.cell? ⟨w1.heap.size, 4, none⟩ = some (.int .u8 last.b4) := HB10.out.cell 4
        have z5 : w6.cell? ⟨w1.heap.size, 5, none⟩ = some (.int .u8 last.b5) := HB10.out.cell 5
        have z6 : w6.cell? ⟨w1.heap.size, 6, none⟩ = some (.int .u8 last.b6) := HB10.out.cell 6
        have z7 : w6.cell? ⟨w1.heap.size, 7, none⟩ = some (.int .u8 last.b7) := HB10.out.cell 7
        go_wp2_with fail
        refine (Read_any last HS.out.2.2.2.2.2.1.1 HS.out.2.2.2.2.2.1.2.1 HS.out.2.2.2.2.2.1.2.2.1 HS.out.2.2.2.2.2.1.2.2.2 _).mono ?_
        rintro e w7 ⟨rfl, hk⟩
        unfold readF Tr.v
        have HK7 := Lib.hid (HK6.out.trans hk (fun i hi => hi.elim))
        clear hk z0 z1 z2 z3 z4 z5 z6 z7
        go_wp2_with fail
        refine (Register_l (HS.out.1.liv.keep HK7.out) HS.out.2.1 (by omega)).mono ?_
        rintro e w8 ⟨rfl, hk⟩
        rw [← HG.out.2]
        have HK8 := Lib.hid (HK7.out.trans hk.out (fun i hi => hi.elim))
        clear hk
        have hrr : (last.b2 == last.b2) = true := by simp
        go_wp2_with ((with_reducible refine (lives_any _).mono ?_); rintro e w' ⟨rfl, hk⟩)
        go_ret
        rename_i hk
        exact ⟨rfl, (HS.out.1.old.trans HK8.out (fun i hi => hi.elim)).trans hk.out (fun i hi => hi.elim)⟩
end Go.Proofs.Ytagklcmkdjgblaa.Emcy
