/- What the document's Raise comes to. -/
import Derived.Test.YtagklcmkdjgblaaEmcyT
namespace Go.Proofs.Ytagklcmkdjgblaa.Emcy
open Go.RowKit Go.Proofs.Ytagklcmkdjgblaa.Own
theorem own_one' {w : World} {h : Nat} {x : Tr} (hb : Blk w h x.cells.toArray 33) : w.ownsRow 0 33 7 (.slice (some ⟨h, 0, none⟩) 1 1) 1 x.cells :=
  ⟨rfl, .inr ⟨h, 1, _, rfl, Nat.zero_le _, hb, Nat.le_refl _, by unfold maxLen; omega, rfl, rfl⟩⟩
def DM (w X : World) (D : Nat → Prop) (d : Nat) (t' : Tl) (wx : World) : Prop := IsD wx (More D w wx) d t' ∧ Keep (Own.One d) X wx
set_option maxRecDepth 100000 in
set_option maxHeartbeats 8000000 in
theorem DRaise_any {w : World} {D : Nat → Prop} {d : Nat} {t : Tl} (h : IsD w D d t) (hw : ∀ x ∈ t.now, x.wf) (hl : t.now.length + 1 ≤ 17592186044416) (hf : t.fr.length ≤ 16) (hm0 : 1 ≤ t.most) (hm1 : t.most ≤ 254) (hh : (t.hist.length : Int) ≤ t.most) (x : Tr) (hx : x.wf) :
    Calls Try.prog 18 #[.pointer (some ⟨d, 0, none⟩), x.v] w (DPost w D d (.bool (t.raise x).1) (t.raise x).2) := by
  have H0 := Lib.hid h
  have HW := Lib.hid hw
  have HX := Lib.hid hx
  unfold Tr.wf at hx
  have x0 := hx.1
  have x1 := hx.2.1
  have dlt := h.lt
  unfold Tr.v
  clear hx hw h
  by_cases hc : x.code < 256
  · have HE : Hid (t.raise x = (false, t)) := Lib.hid (by unfold Tl.raise; rw [if_pos (.inl hc)])
    rw [HE.out]
    go_enter Try.func18, Try.ntmps18
    go_wp2_with fail
    go_ret
    exact ⟨rfl, IsD.more (H0.out.old ((Keep.refl Zero w).alloc _)) (fun k hk => .inl hk), (Keep.refl _ _).alloc _⟩
  · by_cases hfd : 0 ≤ findF x.code t.now 0
    · have HE : Hid (t.raise x = (false, t)) := Lib.hid (by unfold Tl.raise; rw [if_pos (.inr hfd)])
      rw [HE.out]
      obtain ⟨i, hi⟩ : ∃ i, i = findF x.code t.now 0 := ⟨_, rfl⟩
      have HI := Lib.hid hi
      rw [← hi] at hfd
      clear hi
      go_enter Try.func18, Try.ntmps18
      go_wp2_with fail
      refine (find_any (H0.out.old ((Keep.refl Zero w).alloc _)) x.code (by omega)).mono ?_
      rintro e w1 ⟨rfl, rfl⟩
      rw [← HI.out]
      go_wp2_with fail
      go_ret
      exact ⟨rfl, IsD.more (H0.out.old ((Keep.refl Zero w).alloc _)) (fun k hk => .inl hk), (Keep.refl _ _).alloc _⟩
    · have HE : Hid (t.raise x = (true, ({ t with now := t.now ++ [x], hist := (x :: t.hist).take t.most.toNat }).tells x.code x.ex)) := Lib.hid (by unfold Tl.raise; rw [if_neg (fun h => h.elim hc hfd)])
      rw [HE.out]
      obtain ⟨r, hr⟩ : ∃ r, r = (true, ({ t with now := t.now ++ [x], hist := (x :: t.hist).take t.most.toNat }).tells x.code x.ex) := ⟨_, rfl⟩
      have HRr := Lib.hid hr
      rw [← hr]
      obtain ⟨i, hi⟩ : ∃ i, i = findF x.code t.now 0 := ⟨_, rfl⟩
      have HI := Lib.hid hi
      rw [← hi] at hfd
      have hfd2 : decide (0 ≤ i) = false := decide_eq_false hfd
      have hcb : decide (x.code < 256) = false := decide_eq_false hc
      clear hi hr
      go_enter Try.func18, Try.ntmps18
      go_wp2_with fail
      refine (find_any (H0.out.old ((Keep.refl Zero w).alloc _)) x.code (by omega)).mono ?_
      rintro e w1 ⟨rfl, rfl⟩
      rw [← HI.out]
      obtain ⟨X, hX⟩ : ∃ X, X = w.alloc (.cells #[.int .u16 x.code, .int .u8 x.reg, .int .u8 x.x0, .int .u8 x.x1, .int .u8 x.x2, .int .u8 x.x3, .int .u8 x.x4] 33) := ⟨_, rfl⟩
      obtain ⟨bx, hbx⟩ : ∃ bx, bx = w.heap.size := ⟨_, rfl⟩
      have HKX : Hid (Keep Zero w X) := Lib.hid (by rw [hX]; exact (Keep.refl Zero w).alloc _)
      have HBX : Hid (Blk X bx x.cells.toArray 33) := Lib.hid (by rw [hX, hbx]; exact Blk.new w x.cells.toArray 33)
      have hIX := H0.out.old HKX.out
      rw [← hX, ← hbx]
      have hbd : ¬ bx = d := by omega
      have hbw : w.heap.size ≤ bx := by omega
      clear hX hbx
      obtain ⟨An, cn, Ah, ch, Af, cf, hv⟩ := hIX
      obtain ⟨n, hn⟩ : ∃ n, n = t.now.length := ⟨_, rfl⟩
      have HN := Lib.hid hn
      have H := Lib.hid hv
      have hl' : n + 1 ≤ 17592186044416 := by omega
      have g3 : X.cell? ⟨d, 3, none⟩ = some (.slice An n cn) := by rw [hn]; exact hv.blk.cell 3
      have glX : d < X.heap.size := hv.blk.lt
      have blX : bx < X.heap.size := HBX.out.lt
      have HNl : Hid ((flat t.now).length = n * 7) := Lib.hid (by rw [flat_length, hn])
      have z0 : X.cell? ⟨bx, 0, none⟩ = some (.int .u16 x.code) := (HBX.out).cell 0
      have z1 : X.cell? ⟨bx, 1, none⟩ = some (.int .u8 x.reg) := (HBX.out).cell 1
      have z2 : X.cell? ⟨bx, 2, none⟩ = some (.int .u8 x.x0) := (HBX.out).cell 2
      have z3 : X.cell? ⟨bx, 3, none⟩ = some (.int .u8 x.x1) := (HBX.out).cell 3
      have z4 : X.cell? ⟨bx, 4, none⟩ = some (.int .u8 x.x2) := (HBX.out).cell 4
      have z5 : X.cell? ⟨bx, 5, none⟩ = some (.int .u8 x.x3) := (HBX.out).cell 5
      have z6 : X.cell? ⟨bx, 6, none⟩ = some (.int .u8 x.x4) := (HBX.out).cell 6
      clear hv hn
      go_upto_region 3 with fail
      go_cut [] (fun wx => DM w X D d { t with now := t.now ++ [x] } wx)
      case first =>
        go_wp2_with fail
        go_region_law (first | (refine step_appN rfl (.tmp 16) (.tmp 20) 22 rfl 33 trZ 7 8 under22 info33 rfl (by decide) (.slice (some ⟨X.heap.size + 1, 0, none⟩) 0 0) 0 [] rfl (own_none 7 (Blk.drew (Blk.at_ (by simp)))) An n cn (flat t.now) rfl HNl.out H.out.nn (Row.keep H.out.now (by repeat (with_reducible first | exact Keep.refl Zero _ | apply Keep.alloc | apply Keep.drewN | apply Keep.drew)) (fun _ _ _ => id)) (flat_one_cell _) (by unfold maxLen; omega) (by omega) ?_; intro v6 w6 hown6 hgr6 hfr6; simp only [Nat.zero_add, List.nil_append] at hown6; obtain ⟨A6, c6, rfl⟩ := own_slice hown6; have HBF : Hid (Blk w6 X.heap.size x.cells.toArray 33) := Lib.hid (Blk.grown (Blk.drew (Blk.alloc (Blk.at_ (by simp)) _)) hgr6 (by simp [Value.ownBlock])); have HK6 : Hid (Keep Zero X w6) := Lib.hid (Keep.trans (by repeat (with_reducible first | exact Keep.refl Zero _ | apply Keep.alloc | apply Keep.drewN | apply Keep.drew)) (keep_new hgr6) (fun i hi => .inr (by unfold Own.One at hi; omega))); have HO6 := Lib.hid hown6; have HF6 : Hid (∀ a, A6 = some a → X.heap.size ≤ a.block) := Lib.hid (fun a ha => (hfr6 a.block (by subst ha; rfl)).elim (fun h => by simp [Value.ownBlock] at h; omega) (fun h => by simp at h; omega)); have dk6 := HK6.out.cell (p := ⟨d, 3, none⟩) glX id; rw [g3] at dk6; have bk0 := HK6.out.cell (p := ⟨bx, 0, none⟩) blX id; have bk1 := HK6.out.cell (p := ⟨bx, 1, none⟩) blX id; have bk2 := HK6.out.cell (p := ⟨bx, 2, none⟩) blX id; have bk3 := HK6.out.cell (p := ⟨bx, 3, none⟩) blX id; have bk4 := HK6.out.cell (p := ⟨bx, 4, none⟩) blX id; have bk5 := HK6.out.cell (p := ⟨bx, 5, none⟩) blX id; have bk6 := HK6.out.cell (p := ⟨bx, 6, none⟩) blX id; rw [z0] at bk0; rw [z1] at bk1; rw [z2] at bk2; rw [z3] at bk3; rw [z4] at bk4; rw [z5] at bk5; rw [z6] at bk6; clear hown6 hgr6 hfr6) | (refine step_appN rfl (.tmp 16) (.tmp 20) 22 rfl 33 trZ 7 8 under22 info33 rfl (by decide) (.slice (some ⟨X.heap.size, 0, none⟩) 0 0) 0 [] rfl (own_none 7 (Blk.drew (Blk.alloc (Blk.at_ (by simp)) _))) An n cn (flat t.now) rfl HNl.out H.out.nn (Row.keep H.out.now (by repeat (with_reducible first | exact Keep.refl Zero _ | apply Keep.alloc | apply Keep.drewN | apply Keep.drew)) (fun _ _ _ => id)) (flat_one_cell _) (by unfold maxLen; omega) (by omega) ?_; intro v6 w6 hown6 hgr6 hfr6; simp only [Nat.zero_add, List.nil_append] at hown6; obtain ⟨A6, c6, rfl⟩ := own_slice hown6; have HBF : Hid (Blk w6 (X.heap.size + 1) x.cells.toArray 33) := Lib.hid (Blk.grown (Blk.drew (Blk.at_ (by simp))) hgr6 (by simp [Value.ownBlock])); have HK6 : Hid (Keep Zero X w6) := Lib.hid (Keep.trans (by repeat (with_reducible first | exact Keep.refl Zero _ | apply Keep.alloc | apply Keep.drewN | apply Keep.drew)) (keep_new hgr6) (fun i hi => .inr (by unfold Own.One at hi; omega))); have HO6 := Lib.hid hown6; have HF6 : Hid (∀ a, A6 = some a → X.heap.size ≤ a.block) := Lib.hid (fun a ha => (hfr6 a.block (by subst ha; rfl)).elim (fun h => by simp [Value.ownBlock] at h; omega) (fun h => by simp at h; omega)); have dk6 := HK6.out.cell (p := ⟨d, 3, none⟩) glX id; rw [g3] at dk6; have bk0 := HK6.out.cell (p := ⟨bx, 0, none⟩) blX id; have bk1 := HK6.out.cell (p := ⟨bx, 1, none⟩) blX id; have bk2 := HK6.out.cell (p := ⟨bx, 2, none⟩) blX id; have bk3 := HK6.out.cell (p := ⟨bx, 3, none⟩) blX id; have bk4 := HK6.out.cell (p := ⟨bx, 4, none⟩) blX id; have bk5 := HK6.out.cell (p := ⟨bx, 5, none⟩) blX id; have bk6 := HK6.out.cell (p := ⟨bx, 6, none⟩) blX id; rw [z0] at bk0; rw [z1] at bk1; rw [z2] at bk2; rw [z3] at bk3; rw [z4] at bk4; rw [z5] at bk5; rw [z6] at bk6; clear hown6 hgr6 hfr6) | (refine step_appN rfl (.tmp 16) (.tmp 20) 22 rfl 33 trZ 7 8 under22 info33 rfl (by decide) (.slice (some ⟨X.heap.size, 0, none⟩) 0 0) 0 [] rfl (own_none 7 (Blk.drew (Blk.at_ (by simp)))) An n cn (flat t.now) rfl HNl.out H.out.nn (Row.keep H.out.now (by repeat (with_reducible first | exact Keep.refl Zero _ | apply Keep.alloc | apply Keep.drewN | apply Keep.drew)) (fun _ _ _ => id)) (flat_one_cell _) (by unfold maxLen; omega) (by omega) ?_; intro v6 w6 hown6 hgr6 hfr6; simp only [Nat.zero_add, List.nil_append] at hown6; obtain ⟨A6, c6, rfl⟩ := own_slice hown6; have HK6 : Hid (Keep Zero X w6) := Lib.hid (Keep.trans (by repeat (with_reducible first | exact Keep.refl Zero _ | apply Keep.alloc | apply Keep.drewN | apply Keep.drew)) (keep_new hgr6) (fun i hi => .inr (by unfold Own.One at hi; omega))); have HO6 := Lib.hid hown6; have HF6 : Hid (∀ a, A6 = some a → X.heap.size ≤ a.block) := Lib.hid (fun a ha => (hfr6 a.block (by subst ha; rfl)).elim (fun h => by simp [Value.ownBlock] at h; omega) (fun h => by simp at h; omega)); have dk6 := HK6.out.cell (p := ⟨d, 3, none⟩) glX id; rw [g3] at dk6; have bk0 := HK6.out.cell (p := ⟨bx, 0, none⟩) blX id; have bk1 := HK6.out.cell (p := ⟨bx, 1, none⟩) blX id; have bk2 := HK6.out.cell (p := ⟨bx, 2, none⟩) blX id; have bk3 := HK6.out.cell (p := ⟨bx, 3, none⟩) blX id; have bk4 := HK6.out.cell (p := ⟨bx, 4, none⟩) blX id; have bk5 := HK6.out.cell (p := ⟨bx, 5, none⟩) blX id; have bk6 := HK6.out.cell (p := ⟨bx, 6, none⟩) blX id; rw [z0] at bk0; rw [z1] at bk1; rw [z2] at bk2; rw [z3] at bk3; rw [z4] at bk4; rw [z5] at bk5; rw [z6] at bk6; clear hown6 hgr6 hfr6) | (refine step_appN rfl (.tmp 21) (.tmp 23) 22 rfl 33 trZ 7 8 under22 info33 rfl (by decide) (.slice A6 n c6) n (flat t.now) rfl (World.ownsRow.alloc HO6.out _) (some ⟨w6.heap.size, 0, none⟩) 1 1 x.cells rfl rfl (fun h => by cases h) (Row.blk (Blk.new w6 x.cells.toArray 33) (fun i v hi => by simpa using hi)) (cells_one x) (by unfold maxLen; omega) (by omega) ?_; intro v7 w7 hown7 hgr7 hfr7; obtain ⟨A7, c7, rfl⟩ := own_slice hown7; have HK7 : Hid (Keep Zero X w7) := Lib.hid (Keep.trans (by repeat (with_reducible first | exact HK6.out | apply Keep.alloc)) (keep_of_grown hgr7 (S := fun k => X.heap.size ≤ k) (fun k hk => by obtain ⟨a, ha, rfl⟩ := own_in hk; exact HF6.out a ha)) (fun i hi => .inr hi)); have HO7 := Lib.hid hown7; have HF7 : Hid (∀ a, A7 = some a → X.heap.size ≤ a.block) := Lib.hid (fun a ha => (hfr7 a.block (by subst ha; rfl)).elim (fun h => by obtain ⟨a', ha', e'⟩ := own_in h; rw [← e']; exact HF6.out a' ha') (fun h => by have := HK6.out.size; (try simp at h); omega)); clear hown7 hgr7 hfr7; have hd7 := (H.out.old HK7.out).blk; have y7 := hd7.cell 3; have f7 := hd7.frozen 3; clear hd7) | (refine step_appN rfl (.tmp 21) (.tmp 23) 22 rfl 33 trZ 7 8 under22 info33 rfl (by decide) (.slice A6 n c6) n (flat t.now) rfl HO6.out (some ⟨_, 0, none⟩) 1 1 x.cells rfl rfl (fun h => by cases h) (Row.blk HBF.out (fun i v hi => by simpa using hi)) (cells_one x) (by unfold maxLen; omega) (by omega) ?_; intro v7 w7 hown7 hgr7 hfr7; obtain ⟨A7, c7, rfl⟩ := own_slice hown7; have HK7 : Hid (Keep Zero X w7) := Lib.hid (Keep.trans (by repeat (with_reducible first | exact HK6.out | apply Keep.alloc)) (keep_of_grown hgr7 (S := fun k => X.heap.size ≤ k) (fun k hk => by obtain ⟨a, ha, rfl⟩ := own_in hk; exact HF6.out a ha)) (fun i hi => .inr hi)); have HO7 := Lib.hid hown7; have HF7 : Hid (∀ a, A7 = some a → X.heap.size ≤ a.block) := Lib.hid (fun a ha => (hfr7 a.block (by subst ha; rfl)).elim (fun h => by obtain ⟨a', ha', e'⟩ := own_in h; rw [← e']; exact HF6.out a' ha') (fun h => by have := HK6.out.size; (try simp at h); omega)); clear hown7 hgr7 hfr7; have hd7 := (H.out.old HK7.out).blk; have y7 := hd7.cell 3; have f7 := hd7.frozen 3; clear hd7))
        all_goals
          have hlen : (t.now ++ [x]).length = n + 1 := by rw [List.length_append, HN.out]; rfl
          have hrow7 : Trs w7 A7 (t.now ++ [x]) := own_trs (n := n + 1) (c := c7) (by rw [flat_append, flat_one]; exact HO7.out)
          have hp := H.out.put3 (D' := More D w (w7.setCell ⟨d, 3, none⟩ (.slice A7 (n + 1) c7))) (w1 := w7) (A := A7) (c := c7) (l := t.now ++ [x]) HK7.out hrow7 (by rw [hlen]; exact (own_le HO7.out).1) (own_le HO7.out).2.1 (fun h => ((own_le HO7.out).2.2 h).2) (fun i hi => .inl hi) (fun _ a ha => ⟨.inr ⟨by have := HF7.out a ha; omega, by have := (own_addr HO7.out a ha).2; simpa using this⟩, by have := HF7.out a ha; omega⟩)
          rw [hlen] at hp
          have HM : Hid (DM w X D d { t with now := t.now ++ [x] } (w7.setCell ⟨d, 3, none⟩ (.slice A7 (n + 1) c7))) := Lib.hid ⟨⟨_, _, _, _, _, _, hp⟩, (HK7.out.mono (fun i hi => hi.elim)).set1 _ _⟩
          clear hp hlen hrow7 y7 f7
          go_wp2_with fail
          go_meet
          exact HM.out
      case rest =>
        clear H g3 glX blX HNl z0 z1 z2 z3 z4 z5 z6
        obtain ⟨w2, hw2⟩ : ∃ w2, w2 = wc := ⟨_, rfl⟩
        subst hw2
        have HM := Lib.hid hcut
        clear hcut
        obtain ⟨An2, cn2, Ah2, ch2, Af2, cf2, hv2⟩ := HM.out.1
        have HV2 := Lib.hid hv2
        have HB2 := Lib.hid (HBX.out.keep HM.out.2 (fun e => hbd e))
        have HK2 := Lib.hid HM.out.2
        obtain ⟨m, hm⟩ : ∃ m, m = t.hist.length := ⟨_, rfl⟩
        have HMl := Lib.hid hm
        have g4 : w2.cell? ⟨d, 4, none⟩ = some (.slice Ah2 m ch2) := by rw [hm]; exact hv2.blk.cell 4
        have f4 := hv2.blk.frozen 4
        have d2 : d < w2.heap.size := hv2.blk.lt
        have b2 : bx < w2.heap.size := HB2.out.lt
        have hmb : m ≤ 254 := by omega
        have HNh : Hid ((flat t.hist).length = m * 7) := Lib.hid (by rw [flat_length, hm])
        have z0 : w2.cell? ⟨bx, 0, none⟩ = some (.int .u16 x.code) := (HB2.out).cell 0
        have z1 : w2.cell? ⟨bx, 1, none⟩ = some (.int .u8 x.reg) := (HB2.out).cell 1
        have z2 : w2.cell? ⟨bx, 2, none⟩ = some (.int .u8 x.x0) := (HB2.out).cell 2
        have z3 : w2.cell? ⟨bx, 3, none⟩ = some (.int .u8 x.x1) := (HB2.out).cell 3
        have z4 : w2.cell? ⟨bx, 4, none⟩ = some (.int .u8 x.x2) := (HB2.out).cell 4
        have z5 : w2.cell? ⟨bx, 5, none⟩ = some (.int .u8 x.x3) := (HB2.out).cell 5
        have z6 : w2.cell? ⟨bx, 6, none⟩ = some (.int .u8 x.x4) := (HB2.out).cell 6
        clear hv2 HM hm
        go_upto_region 4 with fail
        go_cut [] (fun wx => DM w X D d { t with now := t.now ++ [x], hist := x :: t.hist } wx)
        case first =>
          go_region_law (refine step_appN rfl (.tmp 29) (.tmp 33) 22 rfl 33 trZ 7 8 under22 info33 rfl (by decide) (.slice (some ⟨w2.heap.size, 0, none⟩) 1 1) 1 x.cells rfl (own_one' (Blk.drew (Blk.at_ (by simp)))) Ah2 m ch2 (flat t.hist) rfl HNh.out HV2.out.hn (Row.keep HV2.out.hist (by repeat (with_reducible first | exact Keep.refl Zero _ | apply Keep.alloc | apply Keep.drewN | apply Keep.drew)) (fun _ _ _ => id)) (flat_one_cell _) (by unfold maxLen; omega) (by omega) ?_; intro v7 w7 hown7 hgr7 hfr7; obtain ⟨A7, c7, rfl⟩ := own_slice hown7; have HK7 : Hid (Keep Zero w2 w7) := Lib.hid (Keep.trans (by repeat (with_reducible first | exact Keep.refl Zero _ | apply Keep.alloc | apply Keep.drewN | apply Keep.drew)) (keep_new hgr7) (fun i hi => .inr (by unfold Own.One at hi; omega))); have HO7 := Lib.hid hown7; have HF7 : Hid (∀ a, A7 = some a → w2.heap.size ≤ a.block) := Lib.hid (fun a ha => (hfr7 a.block (by subst ha; rfl)).elim (fun h => by simp [Value.ownBlock] at h; omega) (fun h => by (try simp at h); omega)); clear hown7 hgr7 hfr7; have hd7 := (HV2.out.old HK7.out).blk; have y7 := hd7.cell 4; have f7 := hd7.frozen 4; clear hd7)
          all_goals
            have hlen : (x :: t.hist).length = 1 + m := by rw [List.length_cons, HMl.out]; omega
            have hrow7 : Trs w7 A7 (x :: t.hist) := own_trs (n := 1 + m) (c := c7) (by rw [flat_cons]; exact HO7.out)
            have hsz : w.heap.size ≤ w2.heap.size := Nat.le_trans HKX.out.size HK2.out.size
            have hp := HV2.out.put4 (D' := More D w (w7.setCell ⟨d, 4, none⟩ (.slice A7 (1 + m) c7))) (w1 := w7) (A := A7) (c := c7) (l := x :: t.hist) HK7.out hrow7 (by rw [hlen]; exact (own_le HO7.out).1) (own_le HO7.out).2.1 (fun h => ((own_le HO7.out).2.2 h).2) (fun i hi => hi.elim .inl (fun h => .inr ⟨h.1, by have := HK7.out.size; simp; omega⟩)) (fun _ a ha => ⟨.inr ⟨by have := HF7.out a ha; omega, by have := (own_addr HO7.out a ha).2; simpa using this⟩, by have := HF7.out a ha; omega⟩)
            rw [hlen] at hp
            have HM : Hid (DM w X D d { t with now := t.now ++ [x], hist := x :: t.hist } (w7.setCell ⟨d, 4, none⟩ (.slice A7 (1 + m) c7))) := Lib.hid ⟨⟨_, _, _, _, _, _, hp⟩, (HK2.out.trans HK7.out (fun i hi => hi.elim)).set1 _ _⟩
            clear hp hlen hrow7 y7 f7 hsz
            go_wp2_with fail
            go_meet
            exact HM.out
        case rest =>
          clear HV2 HB2 HK2 g4 f4 d2 b2 HNh z0 z1 z2 z3 z4 z5 z6
          obtain ⟨w3, hw3⟩ : ∃ w3, w3 = wc := ⟨_, rfl⟩
          subst hw3
          have HM := Lib.hid hcut
          clear hcut
          obtain ⟨An3, cn3, Ah3, ch3, Af3, cf3, hv3⟩ := HM.out.1
          have HV3 := Lib.hid hv3
          have HK3 := Lib.hid HM.out.2
          obtain ⟨K, hK⟩ : ∃ K : Nat, (K : Int) = t.most := ⟨t.most.toNat, by omega⟩
          have HKK := Lib.hid hK
          have g0 : w3.cell? ⟨d, 0, none⟩ = some (.int .i64 K) := by rw [hK]; exact hv3.blk.cell 0
          have g4 : w3.cell? ⟨d, 4, none⟩ = some (.slice Ah3 (m + 1) ch3) := by
            have h := hv3.blk.cell 4
            rw [HMl.out]
            exact h
          have f4 := hv3.blk.frozen 4
          have d3 : d < w3.heap.size := hv3.blk.lt
          have hmc : m + 1 ≤ ch3 := by rw [HMl.out]; exact hv3.hc
          have hK0 : 1 ≤ K := by omega
          have hK1 : K ≤ 254 := by omega
          have hmK : m ≤ K := by rw [HMl.out]; omega
          clear hv3 HM hK hm0 hm1 hh
          have HB3 := Lib.hid (HBX.out.keep HK3.out (fun e => hbd e))
          have b3 : bx < w3.heap.size := HB3.out.lt
          have z0 : w3.cell? ⟨bx, 0, none⟩ = some (.int .u16 x.code) := (HB3.out).cell 0
          have z1 : w3.cell? ⟨bx, 1, none⟩ = some (.int .u8 x.reg) := (HB3.out).cell 1
          have z2 : w3.cell? ⟨bx, 2, none⟩ = some (.int .u8 x.x0) := (HB3.out).cell 2
          have z3 : w3.cell? ⟨bx, 3, none⟩ = some (.int .u8 x.x1) := (HB3.out).cell 3
          have z4 : w3.cell? ⟨bx, 4, none⟩ = some (.int .u8 x.x2) := (HB3.out).cell 4
          have z5 : w3.cell? ⟨bx, 5, none⟩ = some (.int .u8 x.x3) := (HB3.out).cell 5
          have z6 : w3.cell? ⟨bx, 6, none⟩ = some (.int .u8 x.x4) := (HB3.out).cell 6
          have HWx : Hid (∀ y ∈ t.now ++ [x], y.wf) := Lib.hid (fun y hy => by
            rcases List.mem_append.1 hy with h | h
            · exact HW.out y h
            · rw [List.mem_singleton.1 h]
              exact HX.out)
          go_upto_region 5 with fail
          by_cases hfit : K < m + 1
          · have hfi : (K : Int) < (m : Int) + 1 := by omega
            have hkc : (K : Int) ≤ (ch3 : Int) := by omega
            go_quiet (fail)
            go_wp2_with fail
            go_region
            go_wp2_with fail
            have hl1 : ((x :: t.hist).take K).length = K := by rw [List.length_take, List.length_cons, ← HMl.out]; omega
            have hp := HV3.out.put4 (D' := More D w w3) (w1 := w3.drewN (nq + 1)) (A := Ah3) (c := ch3) (l := (x :: t.hist).take K) ((Keep.refl Zero w3).drewN _) (fun i v hv => HV3.out.hist i v (by
              rw [← flat_take, List.getElem?_take] at hv
              split at hv
              · exact hv
              · cases hv)) (by rw [hl1]; omega) HV3.out.mx.2.1 HV3.out.hn (fun i h => h) (fun hne a ha => HV3.out.dh (by simp) a ha)
            rw [hl1] at hp
            have HI : Hid (IsD ((w3.drewN (nq + 1)).setCell ⟨d, 4, none⟩ (.slice Ah3 K ch3)) (More D w w3) d { t with now := t.now ++ [x], hist := (x :: t.hist).take K }) := Lib.hid ⟨_, _, _, _, _, _, hp⟩
            have HKw : Hid (Keep (Own.One d) w3 ((w3.drewN (nq + 1)).setCell ⟨d, 4, none⟩ (.slice Ah3 K ch3))) := Lib.hid (((Keep.refl _ w3).drewN _).set1 _ _)
            clear hp hl1
            refine (Dframe_any (w := ((w3.drewN (nq + 1)).setCell ⟨d, 4, none⟩ (.slice Ah3 K ch3))) (D := More D w w3) (d := d) (t := { t with now := t.now ++ [x], hist := (x :: t.hist).take K }) HI.out HWx.out (by simp only [List.length_append, List.length_cons, List.length_nil]; omega) hf x.code x0 x1 x.ex).mono ?_
            rintro e w5 ⟨rfl, hp5⟩
            have HP := Lib.hid hp5.out
            clear hp5
            go_wp2_with fail
            go_ret
            rw [HRr.out, show t.most.toNat = K by have := HKK.out; omega]
            have hs3 : w3.heap.size ≤ w5.heap.size := Nat.le_trans HKw.out.size HP.out.2.size
            have hs0 : w.heap.size ≤ w3.heap.size := Nat.le_trans HKX.out.size HK3.out.size
            refine ⟨rfl, IsD.more HP.out.1 (fun k hk => ?_), ((HKX.out.mono (fun i hi => hi.elim)).trans (HK3.out.trans HKw.out (fun i hi => .inl hi)) (fun i hi => .inl hi)).trans HP.out.2 (fun i hi => .inl hi)⟩
            rcases hk with (hk | hk) | hk
            · exact .inl hk
            · exact .inr ⟨hk.1, by omega⟩
            · exact .inr ⟨Nat.le_trans hs0 (Nat.le_trans HKw.out.size hk.1), hk.2⟩
          · have hfi : ¬ (K : Int) < (m : Int) + 1 := by omega
            go_quiet (fail)
            go_wp2_with fail
            have hl1 : (x :: t.hist).take K = x :: t.hist := List.take_of_length_le (by rw [List.length_cons, ← HMl.out]; omega)
            have HI : Hid (IsD (w3.drewN nq) (More D w w3) d { t with now := t.now ++ [x], hist := (x :: t.hist).take K }) := Lib.hid (by
              rw [hl1]
              exact ⟨_, _, _, _, _, _, HV3.out.old ((Keep.refl Zero w3).drewN _)⟩)
            have HKw : Hid (Keep (Own.One d) w3 (w3.drewN nq)) := Lib.hid ((Keep.refl _ w3).drewN _)
            clear hl1
            refine (Dframe_any (w := (w3.drewN nq)) (D := More D w w3) (d := d) (t := { t with now := t.now ++ [x], hist := (x :: t.hist).take K }) HI.out HWx.out (by simp only [List.length_append, List.length_cons, List.length_nil]; omega) hf x.code x0 x1 x.ex).mono ?_
            rintro e w5 ⟨rfl, hp5⟩
            have HP := Lib.hid hp5.out
            clear hp5
            go_wp2_with fail
            go_ret
            rw [HRr.out, show t.most.toNat = K by have := HKK.out; omega]
            have hs3 : w3.heap.size ≤ w5.heap.size := Nat.le_trans HKw.out.size HP.out.2.size
            have hs0 : w.heap.size ≤ w3.heap.size := Nat.le_trans HKX.out.size HK3.out.size
            refine ⟨rfl, IsD.more HP.out.1 (fun k hk => ?_), ((HKX.out.mono (fun i hi => hi.elim)).trans (HK3.out.trans HKw.out (fun i hi => .inl hi)) (fun i hi => .inl hi)).trans HP.out.2 (fun i hi => .inl hi)⟩
            rcases hk with (hk | hk) | hk
            · exact .inl hk
            · exact .inr ⟨hk.1, by omega⟩
            · exact .inr ⟨Nat.le_trans hs0 (Nat.le_trans HKw.out.size hk.1), hk.2⟩
end Go.Proofs.Ytagklcmkdjgblaa.Emcy
