/- What a half of the document's chip holds. -/
import Derived.Test.YtgegpeicpbhnkaaNvmM
import Derived.Test.YtgegpeicpbhnkaaJoins
import Derived.Deep.RegionHeld3
import Derived.Deep.Cut
namespace Go.Proofs.Ytgegpeicpbhnkaa.Nvm
open Go.RowKit Go.Proofs.Ytgegpeicpbhnkaa.Own Go.Proofs.Ytgegpeicpbhnkaa.Crc
theorem bodyL_succ (P : Nat → Int) (f j : Nat) : bodyL P f j ++ [P ((f + 1) * 8 + j)] = bodyL P f (j + 1) := by
  unfold bodyL
  rw [List.range_succ, List.map_append]
  rfl
set_option maxRecDepth 100000 in
set_option maxHeartbeats 8000000 in
theorem DHolds_bad {w : World} {g : Nat} {pg n : Nat} {P : Nat → Int} {left : Int} {dead : Bool} (h : IsDc w g ⟨pg, n, P, left, dead⟩) (b m f : Nat) (hb : b ≤ 1) (hm : m = n / 2) (hf : f = b * m) (hbd : hCnt P f = 0 ∨ 8 * ((m : Int) - 1) < hLen P f) :
    Calls Try.prog 39 #[.pointer (some ⟨g, 0, none⟩), .int .i64 b] w (HoldsPost w (holdsF P f m)) := by
  have c0 : w.cell? ⟨g, 0, none⟩ = some (.slice (some ⟨pg, 0, none⟩) n n) := h.chip.cell 0
  have glt := h.chip.lt
  have plt : pg < w.heap.size := h.pages.lt
  have n1 : n ≤ 32768 := h.n1
  have n0 : 4 ≤ n := h.n0
  have HP : Hid (Pages w pg n P) := Lib.hid h.pages
  have HC := Lib.hid h
  have HW : Hid (∀ i, 0 ≤ P i ∧ P i ≤ 255) := Lib.hid h.wf
  have hdt : (n : Int).tdiv 2 = (m : Int) := by rw [Int.tdiv_eq_ediv_of_nonneg (by omega)]; omega
  have hdv : (n : Int) / 2 = (m : Int) := by omega
  have hmf : (b : Int) * (m : Int) = (f : Int) := by rw [hf]; simp
  have hfm : f + m ≤ n := by
    rcases (by omega : b = 0 ∨ b = 1) with rfl | rfl <;> omega
  have hfn : (f : Int) < (n : Int) := by omega
  have hwf : IntKind.i64.wrap (f : Int) = (f : Int) := IntWalk.i64_in _ (by omega)
  have hf8 : f * 8 + 7 < 8 * n := by omega
  have p0 : w.cell? ⟨pg, f * 8, none⟩ = _ := HP.out.cell (f * 8) (by omega)
  have p1 : w.cell? ⟨pg, f * 8 + 1, none⟩ = _ := HP.out.cell (f * 8 + 1) (by omega)
  have p2 : w.cell? ⟨pg, f * 8 + 2, none⟩ = _ := HP.out.cell (f * 8 + 2) (by omega)
  have p3 : w.cell? ⟨pg, f * 8 + 3, none⟩ = _ := HP.out.cell (f * 8 + 3) (by omega)
  have p4 : w.cell? ⟨pg, f * 8 + 4, none⟩ = _ := HP.out.cell (f * 8 + 4) (by omega)
  have p5 : w.cell? ⟨pg, f * 8 + 5, none⟩ = _ := HP.out.cell (f * 8 + 5) (by omega)
  have p6 : w.cell? ⟨pg, f * 8 + 6, none⟩ = _ := HP.out.cell (f * 8 + 6) (by omega)
  have p7 : w.cell? ⟨pg, f * 8 + 7, none⟩ = _ := HP.out.cell (f * 8 + 7) (by omega)
  obtain ⟨a0, ha0⟩ : ∃ a, a = P (f * 8) := ⟨_, rfl⟩
  obtain ⟨a1, ha1⟩ : ∃ a, a = P (f * 8 + 1) := ⟨_, rfl⟩
  obtain ⟨a2, ha2⟩ : ∃ a, a = P (f * 8 + 2) := ⟨_, rfl⟩
  obtain ⟨a3, ha3⟩ : ∃ a, a = P (f * 8 + 3) := ⟨_, rfl⟩
  obtain ⟨a4, ha4⟩ : ∃ a, a = P (f * 8 + 4) := ⟨_, rfl⟩
  obtain ⟨a5, ha5⟩ : ∃ a, a = P (f * 8 + 5) := ⟨_, rfl⟩
  obtain ⟨a6, ha6⟩ : ∃ a, a = P (f * 8 + 6) := ⟨_, rfl⟩
  obtain ⟨a7, ha7⟩ : ∃ a, a = P (f * 8 + 7) := ⟨_, rfl⟩
  rw [← ha0] at p0
  rw [← ha1] at p1
  rw [← ha2] at p2
  rw [← ha3] at p3
  rw [← ha4] at p4
  rw [← ha5] at p5
  rw [← ha6] at p6
  rw [← ha7] at p7
  obtain ⟨z0, y0⟩ := HW.out (f * 8)
  obtain ⟨z1, y1⟩ := HW.out (f * 8 + 1)
  obtain ⟨z2, y2⟩ := HW.out (f * 8 + 2)
  obtain ⟨z3, y3⟩ := HW.out (f * 8 + 3)
  obtain ⟨z4, y4⟩ := HW.out (f * 8 + 4)
  obtain ⟨z5, y5⟩ := HW.out (f * 8 + 5)
  obtain ⟨z6, y6⟩ := HW.out (f * 8 + 6)
  obtain ⟨z7, y7⟩ := HW.out (f * 8 + 7)
  rw [← ha0] at z0 y0
  rw [← ha1] at z1 y1
  rw [← ha2] at z2 y2
  rw [← ha3] at z3 y3
  rw [← ha4] at z4 y4
  rw [← ha5] at z5 y5
  rw [← ha6] at z6 y6
  rw [← ha7] at z7 y7
  obtain ⟨cn, hcn⟩ : ∃ a : Nat, (a : Int) = a0 + a1 * 256 := ⟨(a0 + a1 * 256).toNat, by omega⟩
  obtain ⟨ln, hln⟩ : ∃ a : Nat, (a : Int) = a2 + a3 * 256 + a4 * 65536 + a5 * 16777216 := ⟨(a2 + a3 * 256 + a4 * 65536 + a5 * 16777216).toNat, by omega⟩
  have ecn : hCnt P f = cn := by rw [hcn, ha0, ha1]; rfl
  have eln : hLen P f = ln := by rw [hln, ha2, ha3, ha4, ha5]; rfl
  have esm : hSum P f = a6 + a7 * 256 := by rw [ha6, ha7]; rfl
  have cn1 : cn ≤ 65535 := by omega
  have ln1 : ln ≤ 4294967295 := by omega
  have HE := Lib.hid (And.intro ecn (And.intro eln esm))
  have HCN := Lib.hid hcn
  have HLN := Lib.hid hln
  clear h ha0 ha1 ha2 ha3 ha4 ha5 ha6 ha7 ecn eln esm hf hcn hln
  have hbad : (cn : Int) = 0 ∨ 8 * ((m : Int) - 1) < ln := by rw [← HE.out.1, ← HE.out.2.1]; exact hbd
  clear hbd hm
  have HR : Hid (holdsF P f m = ([], 0)) := Lib.hid (by unfold holdsF; rw [HE.out.1, HE.out.2.1, if_pos hbad])
  rw [HR.out]
  go_enter Try.func39, Try.ntmps39
  go_upto_region 6 with fail
  rw [show a0 + 256 * a1 = (cn : Int) by rw [HCN.out]; omega, show a2 + 256 * a3 + 65536 * a4 + 16777216 * a5 = (ln : Int) by rw [HLN.out]; omega]
  clear p0 p1 p2 p3 p4 p5 p6 p7
  by_cases hc : (cn : Int) = 0
  · have b1 : ((cn : Int) == 0) = true := by simpa using hc
    have HE0 := Lib.hid hc
    clear hbad hc
    go_wp2_with fail
    go_ret2
    exact ⟨none, 0, rfl, Row.nil _ _, Nat.le_refl _, fun _ => rfl, by repeat (with_reducible first | exact Keep.refl _ _ | apply Keep.alloc | apply Keep.drewN | apply Keep.drew), fun a ha => by cases ha⟩
  · have b1 : ((cn : Int) == 0) = false := by simpa using hc
    have b2 : decide (8 * ((m : Int) - 1) < ln) = true := decide_eq_true (hbad.resolve_left hc)
    have b3 : 8 * ((m : Int) - 1) < ln := hbad.resolve_left hc
    clear hbad hc
    go_wp2_with fail
    go_ret2
    exact ⟨none, 0, rfl, Row.nil _ _, Nat.le_refl _, fun _ => rfl, by repeat (with_reducible first | exact Keep.refl _ _ | apply Keep.alloc | apply Keep.drewN | apply Keep.drew), fun a ha => by cases ha⟩
theorem DSum_s {w : World} (k n : Nat) (hk : k ≤ 65535) (hn : n ≤ 1000000) (A : Option Addr) (c : Nat) (xs : List Int) (hx : xs.length = n) (hr : Row w A (ints .u8 xs)) (hnil : A = none → c = 0) (hb : ∀ x ∈ xs, 0 ≤ x ∧ x ≤ 255) (s : Nat) (hs : s = crc (headL k n ++ xs)) :
    Calls Try.prog 38 #[.int .i64 k, .int .i64 n, .slice A n c] w fun e w' => e = .returned (.int .u16 s) ∧ Hid (Keep Zero w w') := by
  subst hx hs
  exact DSum_any k xs.length hk (by omega) A c xs hr hnil hb hn
set_option maxRecDepth 100000 in
set_option maxHeartbeats 8000000 in
theorem DHolds_good {w : World} {g : Nat} {pg n : Nat} {P : Nat → Int} {left : Int} {dead : Bool} (h : IsDc w g ⟨pg, n, P, left, dead⟩) (b m f : Nat) (hb : b ≤ 1) (hm : m = n / 2) (hf : f = b * m) (hbd : ¬ (hCnt P f = 0 ∨ 8 * ((m : Int) - 1) < hLen P f)) :
    Calls Try.prog 39 #[.pointer (some ⟨g, 0, none⟩), .int .i64 b] w (HoldsPost w (holdsF P f m)) := by
  have c0 : w.cell? ⟨g, 0, none⟩ = some (.slice (some ⟨pg, 0, none⟩) n n) := h.chip.cell 0
  have glt := h.chip.lt
  have plt : pg < w.heap.size := h.pages.lt
  have n1 : n ≤ 32768 := h.n1
  have n0 : 4 ≤ n := h.n0
  have HP : Hid (Pages w pg n P) := Lib.hid h.pages
  have HC := Lib.hid h
  have HW : Hid (∀ i, 0 ≤ P i ∧ P i ≤ 255) := Lib.hid h.wf
  have hdt : (n : Int).tdiv 2 = (m : Int) := by rw [Int.tdiv_eq_ediv_of_nonneg (by omega)]; omega
  have hdv : (n : Int) / 2 = (m : Int) := by omega
  have hmf : (b : Int) * (m : Int) = (f : Int) := by rw [hf]; simp
  have hfm : f + m ≤ n := by
    rcases (by omega : b = 0 ∨ b = 1) with rfl | rfl <;> omega
  have hfn : (f : Int) < (n : Int) := by omega
  have hwf : IntKind.i64.wrap (f : Int) = (f : Int) := IntWalk.i64_in _ (by omega)
  have hf8 : f * 8 + 7 < 8 * n := by omega
  have p0 : w.cell? ⟨pg, f * 8, none⟩ = _ := HP.out.cell (f * 8) (by omega)
  have p1 : w.cell? ⟨pg, f * 8 + 1, none⟩ = _ := HP.out.cell (f * 8 + 1) (by omega)
  have p2 : w.cell? ⟨pg, f * 8 + 2, none⟩ = _ := HP.out.cell (f * 8 + 2) (by omega)
  have p3 : w.cell? ⟨pg, f * 8 + 3, none⟩ = _ := HP.out.cell (f * 8 + 3) (by omega)
  have p4 : w.cell? ⟨pg, f * 8 + 4, none⟩ = _ := HP.out.cell (f * 8 + 4) (by omega)
  have p5 : w.cell? ⟨pg, f * 8 + 5, none⟩ = _ := HP.out.cell (f * 8 + 5) (by omega)
  have p6 : w.cell? ⟨pg, f * 8 + 6, none⟩ = _ := HP.out.cell (f * 8 + 6) (by omega)
  have p7 : w.cell? ⟨pg, f * 8 + 7, none⟩ = _ := HP.out.cell (f * 8 + 7) (by omega)
  obtain ⟨a0, ha0⟩ : ∃ a, a = P (f * 8) := ⟨_, rfl⟩
  obtain ⟨a1, ha1⟩ : ∃ a, a = P (f * 8 + 1) := ⟨_, rfl⟩
  obtain ⟨a2, ha2⟩ : ∃ a, a = P (f * 8 + 2) := ⟨_, rfl⟩
  obtain ⟨a3, ha3⟩ : ∃ a, a = P (f * 8 + 3) := ⟨_, rfl⟩
  obtain ⟨a4, ha4⟩ : ∃ a, a = P (f * 8 + 4) := ⟨_, rfl⟩
  obtain ⟨a5, ha5⟩ : ∃ a, a = P (f * 8 + 5) := ⟨_, rfl⟩
  obtain ⟨a6, ha6⟩ : ∃ a, a = P (f * 8 + 6) := ⟨_, rfl⟩
  obtain ⟨a7, ha7⟩ : ∃ a, a = P (f * 8 + 7) := ⟨_, rfl⟩
  rw [← ha0] at p0
  rw [← ha1] at p1
  rw [← ha2] at p2
  rw [← ha3] at p3
  rw [← ha4] at p4
  rw [← ha5] at p5
  rw [← ha6] at p6
  rw [← ha7] at p7
  obtain ⟨z0, y0⟩ := HW.out (f * 8)
  obtain ⟨z1, y1⟩ := HW.out (f * 8 + 1)
  obtain ⟨z2, y2⟩ := HW.out (f * 8 + 2)
  obtain ⟨z3, y3⟩ := HW.out (f * 8 + 3)
  obtain ⟨z4, y4⟩ := HW.out (f * 8 + 4)
  obtain ⟨z5, y5⟩ := HW.out (f * 8 + 5)
  obtain ⟨z6, y6⟩ := HW.out (f * 8 + 6)
  obtain ⟨z7, y7⟩ := HW.out (f * 8 + 7)
  rw [← ha0] at z0 y0
  rw [← ha1] at z1 y1
  rw [← ha2] at z2 y2
  rw [← ha3] at z3 y3
  rw [← ha4] at z4 y4
  rw [← ha5] at z5 y5
  rw [← ha6] at z6 y6
  rw [← ha7] at z7 y7
  obtain ⟨cn, hcn⟩ : ∃ a : Nat, (a : Int) = a0 + a1 * 256 := ⟨(a0 + a1 * 256).toNat, by omega⟩
  obtain ⟨ln, hln⟩ : ∃ a : Nat, (a : Int) = a2 + a3 * 256 + a4 * 65536 + a5 * 16777216 := ⟨(a2 + a3 * 256 + a4 * 65536 + a5 * 16777216).toNat, by omega⟩
  have ecn : hCnt P f = cn := by rw [hcn, ha0, ha1]; rfl
  have eln : hLen P f = ln := by rw [hln, ha2, ha3, ha4, ha5]; rfl
  have esm : hSum P f = a6 + a7 * 256 := by rw [ha6, ha7]; rfl
  have cn1 : cn ≤ 65535 := by omega
  have ln1 : ln ≤ 4294967295 := by omega
  have HE := Lib.hid (And.intro ecn (And.intro eln esm))
  have HCN := Lib.hid hcn
  have HLN := Lib.hid hln
  clear h ha0 ha1 ha2 ha3 ha4 ha5 ha6 ha7 ecn eln esm hf hcn hln
  have hbad : ¬ ((cn : Int) = 0 ∨ 8 * ((m : Int) - 1) < ln) := by rw [← HE.out.1, ← HE.out.2.1]; exact hbd
  have hc : ¬ (cn : Int) = 0 := fun k => hbad (.inl k)
  have b1 : ((cn : Int) == 0) = false := by simpa using hc
  have hl : (ln : Int) ≤ 8 * ((m : Int) - 1) := by omega
  have hl2 : ln ≤ 8 * (m - 1) := by omega
  obtain ⟨s, hs⟩ : ∃ s, s = crc (headL cn ln ++ bodyL P f ln) := ⟨_, rfl⟩
  have HR : Hid (holdsF P f m = if (s : Int) = a6 + a7 * 256 then (bodyL P f ln, (cn : Int)) else ([], 0)) := Lib.hid (by
    unfold holdsF
    rw [HE.out.1, HE.out.2.1, HE.out.2.2, if_neg hbad, Int.toNat_natCast, hs])
  have HS := Lib.hid hs
  clear hbd hbad hc hm hs
  go_enter Try.func39, Try.ntmps39
  go_upto_region 6 with fail
  rw [show a0 + 256 * a1 = (cn : Int) by rw [HCN.out]; omega, show a2 + 256 * a3 + 65536 * a4 + 16777216 * a5 = (ln : Int) by rw [HLN.out]; omega]
  clear p0 p1 p2 p3 p4 p5 p6 p7
  go_wp2_with fail
  go_loopg [11, 12] ln (fun k s11 s12 wr => ∃ (j : Nat) (A : Option Addr) (c : Nat), j ≤ ln ∧ k = ln - j ∧ s12 = .int .i64 j ∧ s11 = .slice A j c ∧ Hid (wr.ownsRow (w.heap.size + 1) 5 1 (.slice A j c) j (ints .u8 (bodyL P f j)) ∧ Blk wr w.heap.size #[.int .u8 a0, .int .u8 a1, .int .u8 a2, .int .u8 a3, .int .u8 a4, .int .u8 a5, .int .u8 a6, .int .u8 a7] 44 ∧ Keep Zero w wr))
  case atStart =>
    refine ⟨0, _, _, Nat.zero_le _, rfl, rfl, rfl, ?_, ?_, ?_⟩
    · have h := own_empty (w := (w.alloc (.cells #[.int .u8 a0, .int .u8 a1, .int .u8 a2, .int .u8 a3, .int .u8 a4, .int .u8 a5, .int .u8 a6, .int .u8 a7] 44)).alloc (.cells #[] 5)) (g := w.heap.size + 1) (e := 5) 1 (Blk.at_ (by simp))
      exact h
    · exact (Blk.new _ _ _).alloc _
    · exact ((Keep.refl _ _).alloc _).alloc _
  case round =>
    obtain ⟨j, A, c, hj, hk, rfl, rfl, HO⟩ := hrel
    have HM := Lib.hid hk
    clear hk
    by_cases hlt : j < ln
    · have h1 : (j : Int) < (ln : Int) := by omega
      have HP2 : Hid (Pages wr pg n P) := Lib.hid (HP.out.keep HO.out.2.2 id)
      have g0 : wr.cell? ⟨g, 0, none⟩ = some (.slice (some ⟨pg, 0, none⟩) n n) := (HO.out.2.2.cell (p := ⟨g, 0, none⟩) glt id).trans c0
      have gl : g < wr.heap.size := Nat.lt_of_lt_of_le glt HO.out.2.2.size
      have pl : pg < wr.heap.size := Nat.lt_of_lt_of_le plt HO.out.2.2.size
      obtain ⟨q, hq⟩ : ∃ q, q = j / 8 := ⟨_, rfl⟩
      obtain ⟨r, hr⟩ : ∃ r, r = j % 8 := ⟨_, rfl⟩
      have hqr : j = 8 * q + r := by omega
      have hr8 : r < 8 := by omega
      have d1 : (j : Int).tdiv 8 = (q : Int) := by rw [Int.tdiv_eq_ediv_of_nonneg (by omega)]; omega
      have d2 : (j : Int) / 8 = (q : Int) := by omega
      have d3 : (j : Int).tmod 8 = (r : Int) := by rw [Int.tmod_eq_emod_of_nonneg (by omega)]; omega
      have d4 : (j : Int) % 8 = (r : Int) := by omega
      have r0 : wr.cell? ⟨pg, (f + 1 + q) * 8 + r, none⟩ = some (.int .u8 (P ((f + 1) * 8 + j))) := by
        rw [show (f + 1) * 8 + j = (f + 1 + q) * 8 + r by omega]
        exact HP2.out.cell _ (by omega)
      have hq1 : (f : Int) + 1 + (q : Int) < (n : Int) := by omega
      have hq0 : 0 ≤ (f : Int) + 1 + (q : Int) := by omega
      have htn : ((f : Int) + 1 + (q : Int)).toNat = f + 1 + q := by omega
      have hwq : IntKind.i64.wrap ((f : Int) + 1 + (q : Int)) = (f : Int) + 1 + (q : Int) := IntWalk.i64_in _ (by omega)
      have hr0 : (0 : Int) ≤ (r : Int) := by omega
      have hri : (r : Int) < 8 := by omega
      have HQR := Lib.hid hqr
      clear hq hr hqr
      obtain ⟨v, hv⟩ : ∃ v, v = P ((f + 1) * 8 + j) := ⟨_, rfl⟩
      have HV := Lib.hid hv
      rw [← hv] at r0
      have HBX : Hid (Blk (wr.alloc (.cells #[.int .u8 v] 5)) wr.heap.size #[.int .u8 v] 5) := Lib.hid (Blk.new _ _ _)
      have HOX : Hid ((wr.alloc (.cells #[.int .u8 v] 5)).ownsRow (w.heap.size + 1) 5 1 (.slice A j c) j (ints .u8 (bodyL P f j))) := Lib.hid (own_keep HO.out.1 ((Keep.refl Zero wr).alloc _) (fun i hi => hi.elim))
      have HSX : Hid (w.heap.size + 1 ≤ (wr.alloc (.cells #[.int .u8 v] 5)).heap.size) := Lib.hid (by have := HO.out.2.1.lt; simp; omega)
      clear hv
      go_wp2_with (at_builtin; refine app_own rfl (.tmp 70) (.tmp 85) 22 rfl (w.heap.size + 1) 5 (.int .u8 0) 1 1 under22 info5 rfl (by decide) (.slice A j c) j (ints .u8 (bodyL P f j)) rfl HOX.out (some ⟨wr.heap.size, 0, none⟩) 1 1 (ints .u8 [v]) rfl (by simp [ints]) (fun h => by cases h) (Row.blk HBX.out (fun i u hu => by simpa [ints] using hu)) (ints_one _ _) (by unfold maxLen; omega) (by omega) HSX.out ?_; intro v' w3 hown3 hgr3)
      have HO3 : Hid (w3.ownsRow (w.heap.size + 1) 5 1 v' (j + 1) (ints .u8 (bodyL P f (j + 1)))) := Lib.hid (by
        have h := hown3
        rw [← ints_append, HV.out, bodyL_succ] at h
        exact h)
      have HB3 : Hid (Blk w3 w.heap.size #[.int .u8 a0, .int .u8 a1, .int .u8 a2, .int .u8 a3, .int .u8 a4, .int .u8 a5, .int .u8 a6, .int .u8 a7] 44) := Lib.hid (Blk.grown (HO.out.2.1.alloc _) hgr3 (fun e => by have := own_block HOX.out _ e; omega))
      have HK3 : Hid (Keep Zero w w3) := Lib.hid ((HO.out.2.2.alloc _).grown hgr3 (fun k hk => .inr (by have := own_block HOX.out k hk; omega)))
      obtain ⟨A3, c3, hv3, _⟩ := Row.own HO3.out
      subst hv3
      clear hown3 hgr3
      go_wp2_with fail
      go_roundg (ln - (j + 1))
      case measure => rw [HM.out]; omega
      case rel => exact ⟨j + 1, A3, c3, hlt, rfl, by go_num, rfl, HO3.out, HB3.out, HK3.out⟩
    · obtain rfl : j = ln := by omega
      have h1 : ¬ (j : Int) < (j : Int) := by omega
      obtain ⟨_, _, he, hrow, hlc, hmx, hab⟩ := Row.own HO.out.1
      simp only [Value.slice.injEq] at he
      obtain ⟨rfl, _, rfl⟩ := he
      have hnil : A = none → c = 0 := by
        intro hA
        subst hA
        obtain ⟨_, ⟨hv, _⟩ | ⟨_, cap, cur, hv, _⟩⟩ := HO.out.1
        · simp only [Value.slice.injEq] at hv
          exact hv.2.2
        · simp at hv
      have HRow := Lib.hid (And.intro hrow (And.intro hlc (And.intro hnil hab)))
      have HBd := Lib.hid HO.out.2.1.drew
      have HRd := Lib.hid (HRow.out.1.keep ((Keep.refl Zero wr).drew) (fun _ _ _ => id))
      have l1 := HO.out.2.1.lt
      have e6 := HO.out.2.1.cell 6
      have e7 := HO.out.2.1.cell 7
      have HBL : Hid ((bodyL P f j).length = j) := Lib.hid (bodyL_length P f j)
      have HBB : Hid (∀ x ∈ bodyL P f j, 0 ≤ x ∧ x ≤ 255) := Lib.hid (fun x hx => by
        unfold bodyL at hx
        obtain ⟨i, _, rfl⟩ := List.mem_map.1 hx
        exact HW.out _)
      have hsl : s < 65536 := by
        rw [HS.out]
        refine crc_lt (fun x hx => ?_)
        rcases List.mem_append.1 hx with h | h
        · unfold headL at h
          simp only [List.mem_cons, List.not_mem_nil, or_false] at h
          omega
        · exact HBB.out x h
      clear hrow hlc hmx hab hnil
      by_cases hsum : (s : Int) = a6 + a7 * 256
      · have hb : (IntKind.i64.wrap (s : Int) != IntKind.i64.wrap (IntKind.i64.wrap a6 + IntKind.i64.wrap (256 * IntKind.i64.wrap a7))) = false := by
          rw [IntWalk.i64_in a7 (by omega), IntWalk.i64_in (256 * a7) (by omega), IntWalk.i64_in a6 (by omega), IntWalk.i64_in (a6 + 256 * a7) (by omega), IntWalk.i64_in (s : Int) (by omega)]
          simp; omega
        have HF : Hid (holdsF P f m = (bodyL P f j, (cn : Int))) := Lib.hid (HR.out.trans (if_pos hsum))
        clear hsum
        go_wp2_with fail
        go_region_held3 (fun w' => w'.cell? ⟨w.heap.size, 6, none⟩ = some (.int .u8 a6) ∧ w'.cell? ⟨w.heap.size, 7, none⟩ = some (.int .u8 a7)) (first | (go_keep; done) | exact ⟨(HBd.out.keep hk4.out id).cell 6, (HBd.out.keep hk4.out id).cell 7⟩) (first | (go_at_call 38; refine (DSum_s cn j cn1 (by omega) A c (bodyL P f j) HBL.out HRd.out HRow.out.2.2.1 HBB.out s HS.out).mono ?_; rintro e w4 ⟨rfl, hk4⟩))
        all_goals
          have HK4 : Hid (Keep Zero w w4) := Lib.hid (HO.out.2.2.trans (((Keep.refl Zero wr).drew).trans hk4.out (fun i hi => hi.elim)) (fun i hi => hi.elim))
          have HK5 : Hid (Keep Zero wr w4) := Lib.hid (((Keep.refl Zero wr).drew).trans hk4.out (fun i hi => hi.elim))
          clear hk4
          go_wp2
          go_ret2
          rw [HF.out]
          refine ⟨A, c, ?_, HRow.out.1.keep HK5.out (fun _ _ _ => id), ?_, HRow.out.2.2.1, HK4.out, fun a ha => by have := HRow.out.2.2.2 a ha; omega⟩
          · rw [show ((bodyL P f j, (cn : Int)) : List Int × Int).1.length = j from bodyL_length P f j]
            rfl
          · rw [show ((bodyL P f j, (cn : Int)) : List Int × Int).1.length = j from bodyL_length P f j]
            exact HRow.out.2.1
      · have hb : (IntKind.i64.wrap (s : Int) != IntKind.i64.wrap (IntKind.i64.wrap a6 + IntKind.i64.wrap (256 * IntKind.i64.wrap a7))) = true := by
          rw [IntWalk.i64_in a7 (by omega), IntWalk.i64_in (256 * a7) (by omega), IntWalk.i64_in a6 (by omega), IntWalk.i64_in (a6 + 256 * a7) (by omega), IntWalk.i64_in (s : Int) (by omega)]
          simp; omega
        have HF : Hid (holdsF P f m = ([], 0)) := Lib.hid (HR.out.trans (if_neg hsum))
        clear hsum
        go_wp2_with fail
        go_region_held3 (fun w' => w'.cell? ⟨w.heap.size, 6, none⟩ = some (.int .u8 a6) ∧ w'.cell? ⟨w.heap.size, 7, none⟩ = some (.int .u8 a7)) (first | (go_keep; done) | exact ⟨(HBd.out.keep hk4.out id).cell 6, (HBd.out.keep hk4.out id).cell 7⟩) (first | (go_at_call 38; refine (DSum_s cn j cn1 (by omega) A c (bodyL P f j) HBL.out HRd.out HRow.out.2.2.1 HBB.out s HS.out).mono ?_; rintro e w4 ⟨rfl, hk4⟩))
        all_goals
          have HK4 : Hid (Keep Zero w w4) := Lib.hid (HO.out.2.2.trans (((Keep.refl Zero wr).drew).trans hk4.out (fun i hi => hi.elim)) (fun i hi => hi.elim))
          clear hk4
          go_wp2
          go_ret2
          rw [HF.out]
          exact ⟨none, 0, rfl, Row.nil _ _, Nat.le_refl _, fun _ => rfl, HK4.out, fun a ha => by cases ha⟩
theorem DHolds_any {w : World} {g : Nat} {c : Ch} (h : IsDc w g c) (b m f : Nat) (hb : b ≤ 1) (hm : m = c.n / 2) (hf : f = b * m) :
    Calls Try.prog 39 #[.pointer (some ⟨g, 0, none⟩), .int .i64 b] w (HoldsPost w (holdsF c.P f m)) := by
  obtain ⟨pg, n, P, left, dead⟩ := c
  by_cases hbd : hCnt P f = 0 ∨ 8 * ((m : Int) - 1) < hLen P f
  · exact DHolds_bad h b m f hb hm hf hbd
  · exact DHolds_good h b m f hb hm hf hbd
theorem DHolds_0 {w : World} {g : Nat} {c : Ch} (h : IsDc w g c) (m : Nat) (hm : m = c.n / 2) :
    Calls Try.prog 39 #[.pointer (some ⟨g, 0, none⟩), .int .i64 0] w (HoldsPost w (holdsF c.P 0 m)) := DHolds_any h 0 m 0 (by omega) hm (by omega)
theorem DHolds_1 {w : World} {g : Nat} {c : Ch} (h : IsDc w g c) (m : Nat) (hm : m = c.n / 2) :
    Calls Try.prog 39 #[.pointer (some ⟨g, 0, none⟩), .int .i64 1] w (HoldsPost w (holdsF c.P m m)) := DHolds_any h 1 m m (by omega) hm (by omega)
end Go.Proofs.Ytgegpeicpbhnkaa.Nvm
