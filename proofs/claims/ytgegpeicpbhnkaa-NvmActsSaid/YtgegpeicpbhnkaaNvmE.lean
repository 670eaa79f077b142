/- What a half holds. -/
import Derived.Test.YtgegpeicpbhnkaaNvmD
import Derived.Test.YtgegpeicpbhnkaaJoins
import Derived.Deep.RegionHeld3
namespace Go.Proofs.Ytgegpeicpbhnkaa.Nvm
open Go.RowKit Go.Proofs.Ytgegpeicpbhnkaa.Own Go.Proofs.Ytgegpeicpbhnkaa.Crc
def hCnt (P : Nat → Int) (f : Nat) : Int := P (f * 8) + P (f * 8 + 1) * 256
def hLen (P : Nat → Int) (f : Nat) : Int := P (f * 8 + 2) + P (f * 8 + 3) * 256 + P (f * 8 + 4) * 65536 + P (f * 8 + 5) * 16777216
def hSum (P : Nat → Int) (f : Nat) : Int := P (f * 8 + 6) + P (f * 8 + 7) * 256
def bodyL (P : Nat → Int) (f n : Nat) : List Int := (List.range n).map fun i => P ((f + 1) * 8 + i)
/-- What a half holds, and its counter; 0: nothing. -/
def holdsF (P : Nat → Int) (f m : Nat) : List Int × Int :=
  if hCnt P f = 0 ∨ 8 * ((m : Int) - 1) < hLen P f then ([], 0)
  else if (crc (headL (hCnt P f) (hLen P f) ++ bodyL P f (hLen P f).toNat) : Int) = hSum P f then (bodyL P f (hLen P f).toNat, hCnt P f) else ([], 0)
theorem under44 : Try.prog.underlying 44 = some (.array (Try.prog.arrayLen 44) (Try.prog.elem 44)) := by kernel_rfl
theorem len44 : Try.prog.arrayLen 44 = 8 := by kernel_rfl
theorem slice44 (w : World) (b t : Nat) (ht : t ≤ 8) (h : Int) (hh : h = t) : Sem.run Try.prog (Instr.sliceAt 44 (.pointer (some ⟨b, 0, none⟩)) none (some (.int .i64 h)) none) w = .ok (.slice (some ⟨b, 0, none⟩) t 8) w := by
  subst hh
  rw [run_sliceAt_array_h w 44 _ under44 .i64 t (by omega) (by rw [len44]; omega)]
  rw [len44]
  simp [slicedAt, go_sem]
theorem bodyL_length (P : Nat → Int) (f n : Nat) : (bodyL P f n).length = n := by simp [bodyL]
theorem bodyL_append (P : Nat → Int) (f j t : Nat) : bodyL P f (8 * j) ++ ((List.range t).map fun r => P ((f + (j + 1)) * 8 + r)) = bodyL P f (8 * j + t) := by
  unfold bodyL
  rw [List.range_add, List.map_append, List.map_map]
  congr 1
  apply List.map_congr_left
  intro r _
  simp only [Function.comp]
  congr 1
  omega
def HoldsPost (w : World) (r : List Int × Int) (e : Ending) (w' : World) : Prop := ∃ A c, e = .returned (.tuple #[.slice A r.1.length c, .int .i64 r.2]) ∧ Row w' A (ints .u8 r.1) ∧ r.1.length ≤ c ∧ (A = none → c = 0) ∧ Keep Zero w w' ∧ ∀ a, A = some a → w.heap.size ≤ a.block
theorem head_h (c n : Int) (c0 : 0 ≤ c) (c1 : c ≤ 65535) (n0 : 0 ≤ n) (w : World) :
    Calls Try.prog 33 #[.int .i64 c, .int .i64 n] w fun e w' => ∃ h, e = .returned (.slice (some ⟨h, 0, none⟩) 6 6) ∧ Hid (Row w' (some ⟨h, 0, none⟩) (ints .u8 (headL c n))) ∧ Hid (Keep Zero w w') := by
  refine (head_any c n c0 c1 n0 w).mono ?_
  rintro e w' ⟨rfl, rfl⟩
  exact ⟨_, rfl, Row.blk (Blk.new w _ _) (fun i v hv => by simpa using hv), (Keep.refl Zero w).alloc _⟩
theorem Concat_h {w : World} (b : Nat) (A B : Option Addr) (c d : Nat) (xs ys : List Int) (n m : Nat) (hn : xs.length = n) (hm : ys.length = m) (hb : Blk w b #[.slice A n c, .slice B m d] 22) (hx : Row w A (ints .u8 xs)) (hy : Row w B (ints .u8 ys)) (hA : A = none → c = 0) (hB : B = none → d = 0) (lx : n ≤ 70368744177664) (ly : m ≤ 70368744177664) (zs : List Int) (hz : zs = xs ++ ys) :
    Calls Try.prog 35 #[.slice (some ⟨b, 0, none⟩) 2 2] w fun e w' => ∃ A c, e = .returned (.slice A zs.length c) ∧ Hid (Row w' A (ints .u8 zs)) ∧ Hid (Keep Zero w w') := by
  subst hn hm hz
  refine (Concat_any b A B c d xs ys hb hx hy hA hB lx ly).mono ?_
  rintro e w' ⟨A, c, rfl, h1, h2, h3, h4⟩
  exact ⟨A, c, rfl, h1, h3⟩
set_option maxRecDepth 100000 in
set_option maxHeartbeats 8000000 in
theorem holds_bad {w : World} {g : Nat} {pg n : Nat} {P : Nat → Int} {left : Int} {dead : Bool} (h : IsCh w g ⟨pg, n, P, left, dead⟩) (f m : Nat) (hm : 1 ≤ m) (hf : f + m ≤ n) (hb : hCnt P f = 0 ∨ 8 * ((m : Int) - 1) < hLen P f) :
    Calls Try.prog 32 #[halfV g f m] w (HoldsPost w (holdsF P f m)) := by
  unfold halfV
  have c0 : w.cell? ⟨g, 0, none⟩ = some (.slice (some ⟨pg, 0, none⟩) n n) := h.chip.cell 0
  have glt := h.chip.lt
  have plt : pg < w.heap.size := h.pages.lt
  have n1 : n ≤ 32768 := h.n1
  have HP : Hid (Pages w pg n P) := Lib.hid h.pages
  have HC := Lib.hid h
  have HW : Hid (∀ i, 0 ≤ P i ∧ P i ≤ 255) := Lib.hid h.wf
  have hfn : (f : Int) < (n : Int) := by omega
  have hf8 : f * 8 + 7 < 8 * n := by omega
  have p0 : w.cell? ⟨pg, f * 8, none⟩ = _ := HP.out.cell (f * 8) (by omega)
  have p1 : w.cell? ⟨pg, f * 8 + 1, none⟩ = _ := HP.out.cell (f * 8 + 1) (by omega)
  have p2 : w.cell? ⟨pg, f * 8 + 2, none⟩ = _ := HP.out.cell (f * 8 + 2) (by omega)
  have p3 : w.cell? ⟨pg, f * 8 + 3, none⟩ = _ := HP.out.cell (f * 8 + 3) (by omega)
  have p4 : w.cell? ⟨pg, f * 8 + 4, none⟩ = _ := HP.out.cell (f * 8 + 4) (by omega)
  have p5 : w.cell? ⟨pg, f * 8 + 5, none⟩ = _ := HP.out.cell (f * 8 + 5) (by omega)
  have p6 : w.cell? ⟨pg, f * 8 + 6, none⟩ = _ := HP.out.cell (f * 8 + 6) (by omega)
  have p7 : w.cell? ⟨pg, f * 8 + 7, none⟩ = _ := HP.out.cell (f * 8 + 7) (by omega)
  obtain ⟨a0, ha0⟩ : ∃ a, a = P (f * 8) := ⟨_, rfl⟩
  obtain ⟨a1, ha1⟩ : ∃ a, a = P (f * 8 + 1) := ⟨_, rfl⟩
  obtain ⟨a2, ha2⟩ : ∃ a, a = P (f * 8 + 2) := ⟨_, rfl⟩
  obtain ⟨a3, ha3⟩ : ∃ a, a = P (f * 8 + 3) := ⟨_, rfl⟩
  obtain ⟨a4, ha4⟩ : ∃ a, a = P (f * 8 + 4) := ⟨_, rfl⟩
  obtain ⟨a5, ha5⟩ : ∃ a, a = P (f * 8 + 5) := ⟨_, rfl⟩
  obtain ⟨a6, ha6⟩ : ∃ a, a = P (f * 8 + 6) := ⟨_, rfl⟩
  obtain ⟨a7, ha7⟩ : ∃ a, a = P (f * 8 + 7) := ⟨_, rfl⟩
  rw [← ha0] at p0
  rw [← ha1] at p1
  rw [← ha2] at p2
  rw [← ha3] at p3
  rw [← ha4] at p4
  rw [← ha5] at p5
  rw [← ha6] at p6
  rw [← ha7] at p7
  have HA := Lib.hid (And.intro ha0 (And.intro ha1 (And.intro ha2 (And.intro ha3 (And.intro ha4 (And.intro ha5 (And.intro ha6 ha7)))))))
  obtain ⟨z0, y0⟩ := HW.out (f * 8)
  obtain ⟨z1, y1⟩ := HW.out (f * 8 + 1)
  obtain ⟨z2, y2⟩ := HW.out (f * 8 + 2)
  obtain ⟨z3, y3⟩ := HW.out (f * 8 + 3)
  obtain ⟨z4, y4⟩ := HW.out (f * 8 + 4)
  obtain ⟨z5, y5⟩ := HW.out (f * 8 + 5)
  obtain ⟨z6, y6⟩ := HW.out (f * 8 + 6)
  obtain ⟨z7, y7⟩ := HW.out (f * 8 + 7)
  rw [← ha0] at z0 y0
  rw [← ha1] at z1 y1
  rw [← ha2] at z2 y2
  rw [← ha3] at z3 y3
  rw [← ha4] at z4 y4
  rw [← ha5] at z5 y5
  rw [← ha6] at z6 y6
  rw [← ha7] at z7 y7
  obtain ⟨cn, hcn⟩ : ∃ a, a = a0 + a1 * 256 := ⟨_, rfl⟩
  obtain ⟨ln, hln⟩ : ∃ a, a = a2 + a3 * 256 + a4 * 65536 + a5 * 16777216 := ⟨_, rfl⟩
  have ecn : hCnt P f = cn := by rw [hcn, ha0, ha1]; rfl
  have eln : hLen P f = ln := by rw [hln, ha2, ha3, ha4, ha5]; rfl
  have esm : hSum P f = a6 + a7 * 256 := by rw [ha6, ha7]; rfl
  have o1 : bits .or .i64 a0 (a1 * 256) = cn := by rw [or_i64_8 a0 a1 z0 (by omega) z1 y1, hcn]
  have o2 : bits .or .i64 a2 (a3 * 256) = a2 + a3 * 256 := or_i64_8 a2 a3 z2 (by omega) z3 y3
  have o3 : bits .or .i64 (a2 + a3 * 256) (a4 * 65536) = a2 + a3 * 256 + a4 * 65536 := or_i64_16 _ a4 (by omega) (by omega) z4 y4
  have o4 : bits .or .i64 (a2 + a3 * 256 + a4 * 65536) (a5 * 16777216) = ln := by rw [or_i64_24 _ a5 (by omega) (by omega) z5 y5, hln]
  have o5 : bits .or .u16 a6 (a7 * 256) = a6 + a7 * 256 := or_u16_8 a6 a7 z6 (by omega) z7 y7
  have cn0 : 0 ≤ cn := by omega
  have cn1 : cn ≤ 65535 := by omega
  have ln0 : 0 ≤ ln := by omega
  have ln1 : ln ≤ 4294967295 := by omega
  have HE := Lib.hid (And.intro ecn (And.intro eln esm))
  clear h ha0 ha1 ha2 ha3 ha4 ha5 ha6 ha7 hcn hln ecn eln esm
  have hbad : cn = 0 ∨ 8 * ((m : Int) - 1) < ln := by rw [← HE.out.1, ← HE.out.2.1]; exact hb
  clear hb
  have HR : Hid (holdsF P f m = ([], 0)) := Lib.hid (by unfold holdsF; rw [HE.out.1, HE.out.2.1, if_pos hbad])
  rw [HR.out]
  by_cases hc : cn = 0
  · have b1 : (cn == 0) = true := by simp [hc]
    clear hbad hc
    go_enter Try.func32, Try.ntmps32
    go_wp2
    go_region
    go_wp2
    go_ret2
    exact ⟨none, 0, rfl, Row.nil _ _, Nat.le_refl _, fun _ => rfl, by repeat (with_reducible first | exact Keep.refl _ _ | apply Keep.alloc | apply Keep.drewN | apply Keep.drew), fun a ha => by cases ha⟩
  · have b1 : (cn == 0) = false := by simp [hc]
    have b2 : 8 * ((m : Int) - 1) < ln := hbad.resolve_left hc
    clear hbad hc
    go_enter Try.func32, Try.ntmps32
    go_wp2
    go_region
    go_wp2
    go_ret2
    exact ⟨none, 0, rfl, Row.nil _ _, Nat.le_refl _, fun _ => rfl, by repeat (with_reducible first | exact Keep.refl _ _ | apply Keep.alloc | apply Keep.drewN | apply Keep.drew), fun a ha => by cases ha⟩
set_option maxRecDepth 100000 in
set_option maxHeartbeats 8000000 in
theorem holds_good {w : World} {g : Nat} {pg n : Nat} {P : Nat → Int} {left : Int} {dead : Bool} (h : IsCh w g ⟨pg, n, P, left, dead⟩) (f m : Nat) (hm : 1 ≤ m) (hf : f + m ≤ n) (hb : ¬ (hCnt P f = 0 ∨ 8 * ((m : Int) - 1) < hLen P f)) :
    Calls Try.prog 32 #[halfV g f m] w (HoldsPost w (holdsF P f m)) := by
  unfold halfV
  have c0 : w.cell? ⟨g, 0, none⟩ = some (.slice (some ⟨pg, 0, none⟩) n n) := h.chip.cell 0
  have glt := h.chip.lt
  have plt : pg < w.heap.size := h.pages.lt
  have n1 : n ≤ 32768 := h.n1
  have HP : Hid (Pages w pg n P) := Lib.hid h.pages
  have HC := Lib.hid h
  have HW : Hid (∀ i, 0 ≤ P i ∧ P i ≤ 255) := Lib.hid h.wf
  have hfn : (f : Int) < (n : Int) := by omega
  have hf8 : f * 8 + 7 < 8 * n := by omega
  have p0 : w.cell? ⟨pg, f * 8, none⟩ = _ := HP.out.cell (f * 8) (by omega)
  have p1 : w.cell? ⟨pg, f * 8 + 1, none⟩ = _ := HP.out.cell (f * 8 + 1) (by omega)
  have p2 : w.cell? ⟨pg, f * 8 + 2, none⟩ = _ := HP.out.cell (f * 8 + 2) (by omega)
  have p3 : w.cell? ⟨pg, f * 8 + 3, none⟩ = _ := HP.out.cell (f * 8 + 3) (by omega)
  have p4 : w.cell? ⟨pg, f * 8 + 4, none⟩ = _ := HP.out.cell (f * 8 + 4) (by omega)
  have p5 : w.cell? ⟨pg, f * 8 + 5, none⟩ = _ := HP.out.cell (f * 8 + 5) (by omega)
  have p6 : w.cell? ⟨pg, f * 8 + 6, none⟩ = _ := HP.out.cell (f * 8 + 6) (by omega)
  have p7 : w.cell? ⟨pg, f * 8 + 7, none⟩ = _ := HP.out.cell (f * 8 + 7) (by omega)
  obtain ⟨a0, ha0⟩ : ∃ a, a = P (f * 8) := ⟨_, rfl⟩
  obtain ⟨a1, ha1⟩ : ∃ a, a = P (f * 8 + 1) := ⟨_, rfl⟩
  obtain ⟨a2, ha2⟩ : ∃ a, a = P (f * 8 + 2) := ⟨_, rfl⟩
  obtain ⟨a3, ha3⟩ : ∃ a, a = P (f * 8 + 3) := ⟨_, rfl⟩
  obtain ⟨a4, ha4⟩ : ∃ a, a = P (f * 8 + 4) := ⟨_, rfl⟩
  obtain ⟨a5, ha5⟩ : ∃ a, a = P (f * 8 + 5) := ⟨_, rfl⟩
  obtain ⟨a6, ha6⟩ : ∃ a, a = P (f * 8 + 6) := ⟨_, rfl⟩
  obtain ⟨a7, ha7⟩ : ∃ a, a = P (f * 8 + 7) := ⟨_, rfl⟩
  rw [← ha0] at p0
  rw [← ha1] at p1
  rw [← ha2] at p2
  rw [← ha3] at p3
  rw [← ha4] at p4
  rw [← ha5] at p5
  rw [← ha6] at p6
  rw [← ha7] at p7
  have HA := Lib.hid (And.intro ha0 (And.intro ha1 (And.intro ha2 (And.intro ha3 (And.intro ha4 (And.intro ha5 (And.intro ha6 ha7)))))))
  obtain ⟨z0, y0⟩ := HW.out (f * 8)
  obtain ⟨z1, y1⟩ := HW.out (f * 8 + 1)
  obtain ⟨z2, y2⟩ := HW.out (f * 8 + 2)
  obtain ⟨z3, y3⟩ := HW.out (f * 8 + 3)
  obtain ⟨z4, y4⟩ := HW.out (f * 8 + 4)
  obtain ⟨z5, y5⟩ := HW.out (f * 8 + 5)
  obtain ⟨z6, y6⟩ := HW.out (f * 8 + 6)
  obtain ⟨z7, y7⟩ := HW.out (f * 8 + 7)
  rw [← ha0] at z0 y0
  rw [← ha1] at z1 y1
  rw [← ha2] at z2 y2
  rw [← ha3] at z3 y3
  rw [← ha4] at z4 y4
  rw [← ha5] at z5 y5
  rw [← ha6] at z6 y6
  rw [← ha7] at z7 y7
  obtain ⟨cn, hcn⟩ : ∃ a, a = a0 + a1 * 256 := ⟨_, rfl⟩
  obtain ⟨ln, hln⟩ : ∃ a, a = a2 + a3 * 256 + a4 * 65536 + a5 * 16777216 := ⟨_, rfl⟩
  have ecn : hCnt P f = cn := by rw [hcn, ha0, ha1]; rfl
  have eln : hLen P f = ln := by rw [hln, ha2, ha3, ha4, ha5]; rfl
  have esm : hSum P f = a6 + a7 * 256 := by rw [ha6, ha7]; rfl
  have o1 : bits .or .i64 a0 (a1 * 256) = cn := by rw [or_i64_8 a0 a1 z0 (by omega) z1 y1, hcn]
  have o2 : bits .or .i64 a2 (a3 * 256) = a2 + a3 * 256 := or_i64_8 a2 a3 z2 (by omega) z3 y3
  have o3 : bits .or .i64 (a2 + a3 * 256) (a4 * 65536) = a2 + a3 * 256 + a4 * 65536 := or_i64_16 _ a4 (by omega) (by omega) z4 y4
  have o4 : bits .or .i64 (a2 + a3 * 256 + a4 * 65536) (a5 * 16777216) = ln := by rw [or_i64_24 _ a5 (by omega) (by omega) z5 y5, hln]
  have o5 : bits .or .u16 a6 (a7 * 256) = a6 + a7 * 256 := or_u16_8 a6 a7 z6 (by omega) z7 y7
  have cn0 : 0 ≤ cn := by omega
  have cn1 : cn ≤ 65535 := by omega
  have ln0 : 0 ≤ ln := by omega
  have ln1 : ln ≤ 4294967295 := by omega
  have HE := Lib.hid (And.intro ecn (And.intro eln esm))
  clear h ha0 ha1 ha2 ha3 ha4 ha5 ha6 ha7 hcn hln ecn eln esm
  have hbad : ¬ (cn = 0 ∨ 8 * ((m : Int) - 1) < ln) := by rw [← HE.out.1, ← HE.out.2.1]; exact hb
  clear hb
  have hc : ¬ cn = 0 := fun h => hbad (.inl h)
  have hl : ln ≤ 8 * ((m : Int) - 1) := by omega
  have b1 : (cn == 0) = false := by simp [hc]
  obtain ⟨L, hL⟩ : ∃ L : Nat, ln = L := ⟨ln.toNat, by omega⟩
  subst hL
  have hL2 : L ≤ 8 * (m - 1) := by omega
  have HR : Hid (holdsF P f m = if (crc (headL cn L ++ bodyL P f L) : Int) = a6 + a7 * 256 then (bodyL P f L, cn) else ([], 0)) := Lib.hid (by
    unfold holdsF
    rw [HE.out.1, HE.out.2.1, HE.out.2.2, if_neg hbad, Int.toNat_natCast])
  clear hbad hc
  go_enter Try.func32, Try.ntmps32
  go_wp2
  go_region
  go_wp2_with fail
  go_loopg [7, 8] m (fun k s7 s8 wr => ∃ (j : Nat) (A : Option Addr) (c : Nat), j ≤ m ∧ k = m - j ∧ s8 = .int .i64 ((j + 1 : Nat) : Int) ∧ s7 = .slice A (min (8 * j) L) c ∧ wr.ownsRow (w.heap.size + 2) 5 1 (.slice A (min (8 * j) L) c) (min (8 * j) L) (ints .u8 (bodyL P f (min (8 * j) L))) ∧ Blk wr w.heap.size #[.pointer (some ⟨g, 0, none⟩), .int .i64 f, .int .i64 m] 55 ∧ Blk wr (w.heap.size + 1) #[.int .u8 a0, .int .u8 a1, .int .u8 a2, .int .u8 a3, .int .u8 a4, .int .u8 a5, .int .u8 a6, .int .u8 a7] 44 ∧ Keep Zero w wr)
  case atStart =>
    refine ⟨0, none, 0, Nat.zero_le _, rfl, rfl, ?_, ?_, ?_, ?_, ?_⟩
    · rw [show min (8 * 0) L = 0 by omega]
    · rw [show min (8 * 0) L = 0 by omega]
      exact own_nil _ _ _ _
    · exact Blk.drew (Blk.alloc (Blk.new _ _ _) _)
    · exact Blk.drew (Blk.at_ (by simp))
    · exact Keep.drew (Keep.alloc (Keep.alloc (Keep.refl _ _) _) _)
  case round =>
    obtain ⟨j, A, c, hj, hk, rfl, rfl, hown, hb0, hb1, hkp⟩ := hrel
    have HM := Lib.hid hk
    have HO := Lib.hid hown
    have HB0 := Lib.hid hb0
    have HB1 := Lib.hid hb1
    have HK := Lib.hid hkp
    clear hk hown hb0 hb1 hkp p0 p1 p2 p3 p4 p5 p6 p7 o1 o2 o3 o4
    by_cases hlt : 8 * j < L
    · have e8 : min (8 * j) L = 8 * j := by omega
      rw [e8] at HO ⊢
      clear e8
      have HP2 : Hid (Pages wr pg n P) := Lib.hid (HP.out.keep HK.out id)
      have g0 : wr.cell? ⟨g, 0, none⟩ = some (.slice (some ⟨pg, 0, none⟩) n n) := (HK.out.cell (p := ⟨g, 0, none⟩) glt id).trans c0
      have d0 := HB0.out.cell 0
      have d1 := HB0.out.cell 1
      have l0 := HB0.out.lt
      have r0 : wr.cell? ⟨pg, (f + (j + 1)) * 8, none⟩ = _ := HP2.out.cell ((f + (j + 1)) * 8) (by omega)
      have r1 : wr.cell? ⟨pg, (f + (j + 1)) * 8 + 1, none⟩ = _ := HP2.out.cell ((f + (j + 1)) * 8 + 1) (by omega)
      have r2 : wr.cell? ⟨pg, (f + (j + 1)) * 8 + 2, none⟩ = _ := HP2.out.cell ((f + (j + 1)) * 8 + 2) (by omega)
      have r3 : wr.cell? ⟨pg, (f + (j + 1)) * 8 + 3, none⟩ = _ := HP2.out.cell ((f + (j + 1)) * 8 + 3) (by omega)
      have r4 : wr.cell? ⟨pg, (f + (j + 1)) * 8 + 4, none⟩ = _ := HP2.out.cell ((f + (j + 1)) * 8 + 4) (by omega)
      have r5 : wr.cell? ⟨pg, (f + (j + 1)) * 8 + 5, none⟩ = _ := HP2.out.cell ((f + (j + 1)) * 8 + 5) (by omega)
      have r6 : wr.cell? ⟨pg, (f + (j + 1)) * 8 + 6, none⟩ = _ := HP2.out.cell ((f + (j + 1)) * 8 + 6) (by omega)
      have r7 : wr.cell? ⟨pg, (f + (j + 1)) * 8 + 7, none⟩ = _ := HP2.out.cell ((f + (j + 1)) * 8 + 7) (by omega)
      have hq : (f : Int) + ((j : Int) + 1) < (n : Int) := by omega
      have hq0 : 0 ≤ (f : Int) + ((j : Int) + 1) := by omega
      have htn : ((f : Int) + ((j : Int) + 1)).toNat = f + (j + 1) := by omega
      have hwq : IntKind.i64.wrap ((f : Int) + ((j : Int) + 1)) = (f : Int) + ((j : Int) + 1) := IntWalk.i64_in _ (by omega)
      have gl : g < wr.heap.size := Nat.lt_of_lt_of_le glt HK.out.size
      have pl : pg < wr.heap.size := Nat.lt_of_lt_of_le plt HK.out.size
      go_wp2_with fail
      obtain ⟨X, hX⟩ : ∃ X, X = (wr.alloc (.cells #[.int .u8 (P ((f + (j + 1)) * 8)), .int .u8 (P ((f + (j + 1)) * 8 + 1)), .int .u8 (P ((f + (j + 1)) * 8 + 2)), .int .u8 (P ((f + (j + 1)) * 8 + 3)), .int .u8 (P ((f + (j + 1)) * 8 + 4)), .int .u8 (P ((f + (j + 1)) * 8 + 5)), .int .u8 (P ((f + (j + 1)) * 8 + 6)), .int .u8 (P ((f + (j + 1)) * 8 + 7))] 44)).drew := ⟨_, rfl⟩
      have HKX : Hid (Keep Zero wr X) := Lib.hid (by rw [hX]; exact ((Keep.refl Zero wr).alloc _).drew)
      have HOX : Hid (X.ownsRow (w.heap.size + 2) 5 1 (.slice A (8 * j) c) (8 * j) (ints .u8 (bodyL P f (8 * j)))) := Lib.hid (own_keep HO.out HKX.out (fun i hi => hi.elim))
      have HRX : Hid (∀ t, t ≤ 8 → Row X (some ⟨wr.heap.size, 0, none⟩) (ints .u8 ((List.range t).map fun r => P ((f + (j + 1)) * 8 + r)))) := Lib.hid (fun t ht => by
        rw [hX]
        refine Row.blk (Blk.drew (Blk.new wr _ _)) (fun i v hv => ?_)
        rw [ints_get, List.getElem?_map] at hv
        have hit : i < t := by
          rcases Nat.lt_or_ge i t with h | h
          · exact h
          · rw [List.getElem?_eq_none (by simpa using h)] at hv
            simp at hv
        rw [List.getElem?_range hit] at hv
        simp only [Option.map_some, Option.some.injEq] at hv
        subst hv
        have hi8 : i < 8 := by omega
        match i, hi8 with
        | 0, _ => rfl
        | 1, _ => rfl
        | 2, _ => rfl
        | 3, _ => rfl
        | 4, _ => rfl
        | 5, _ => rfl
        | 6, _ => rfl
        | 7, _ => rfl)
      have HSX : Hid (w.heap.size + 2 ≤ X.heap.size) := Lib.hid (by have := HB1.out.lt; have := HKX.out.size; omega)
      have HB0X := Lib.hid (HB0.out.keep HKX.out id)
      have HB1X := Lib.hid (HB1.out.keep HKX.out id)
      have HKwX := Lib.hid (HK.out.trans HKX.out (fun i hi => hi.elim))
      have HX := Lib.hid hX
      clear hX
      by_cases hfull : 8 * j + 8 ≤ L
      · have hf1 : (8 : Int) ≤ (L : Int) - ((8 * j : Nat) : Int) := by omega
        go_region
        rw [← HX.out]
        go_wp2_with (at_builtin; refine app_own rfl (.tmp 72) (.tmp 78) 22 rfl (w.heap.size + 2) 5 (.int .u8 0) 1 1 under22 info5 rfl (by decide) (.slice A (8 * j) c) (8 * j) (ints .u8 (bodyL P f (8 * j))) rfl HOX.out (some ⟨wr.heap.size, 0, none⟩) 8 8 (ints .u8 ((List.range 8).map fun r => P ((f + (j + 1)) * 8 + r))) rfl (by simp [ints]) (fun h => by cases h) (HRX.out 8 (by omega)) (ints_one _ _) (by unfold maxLen; omega) (by omega) HSX.out ?_; intro v' w3 hown3 hgr3)
        have HO3 : Hid (w3.ownsRow (w.heap.size + 2) 5 1 v' (min (8 * (j + 1)) L) (ints .u8 (bodyL P f (min (8 * (j + 1)) L)))) := Lib.hid (by
          have h := hown3
          rw [← ints_append, bodyL_append] at h
          rw [show min (8 * (j + 1)) L = 8 * j + 8 by omega]
          exact h)
        have HB03 : Hid (Blk w3 w.heap.size #[.pointer (some ⟨g, 0, none⟩), .int .i64 f, .int .i64 m] 55) := Lib.hid (Blk.grown HB0X.out hgr3 (fun e => by have := own_block HOX.out _ e; omega))
        have HB13 : Hid (Blk w3 (w.heap.size + 1) #[.int .u8 a0, .int .u8 a1, .int .u8 a2, .int .u8 a3, .int .u8 a4, .int .u8 a5, .int .u8 a6, .int .u8 a7] 44) := Lib.hid (Blk.grown HB1X.out hgr3 (fun e => by have := own_block HOX.out _ e; omega))
        have HK3 : Hid (Keep Zero w w3) := Lib.hid (HKwX.out.grown hgr3 (fun k hk => .inr (by have := own_block HOX.out k hk; omega)))
        have hv3 : ∃ A3 c3, v' = .slice A3 (min (8 * (j + 1)) L) c3 := by
          obtain ⟨A3, c3, rfl, _⟩ := Row.own HO3.out
          exact ⟨A3, c3, rfl⟩
        clear hown3 hgr3
        obtain ⟨A3, c3, hv3⟩ := hv3
        rw [hv3] at HO3 ⊢
        clear hv3
        go_wp2_with fail
        go_roundg (m - (j + 1))
        case measure => rw [HM.out]; omega
        case rel => exact ⟨j + 1, A3, c3, by omega, rfl, by go_num, rfl, HO3.out, HB03.out, HB13.out, HK3.out⟩
      · have hf1 : (L : Int) - ((8 * j : Nat) : Int) < 8 := by omega
        have hsl := slice44 X wr.heap.size (L - 8 * j) (by omega) ((L : Int) - 8 * (j : Int)) (by omega)
        go_region
        rw [← HX.out]
        go_wp2_with (at_builtin; refine app_own rfl (.tmp 72) (.tmp 78) 22 rfl (w.heap.size + 2) 5 (.int .u8 0) 1 1 under22 info5 rfl (by decide) (.slice A (8 * j) c) (8 * j) (ints .u8 (bodyL P f (8 * j))) rfl HOX.out (some ⟨wr.heap.size, 0, none⟩) (L - 8 * j) 8 (ints .u8 ((List.range (L - 8 * j)).map fun r => P ((f + (j + 1)) * 8 + r))) rfl (by simp [ints]) (fun h => by cases h) (HRX.out _ (by omega)) (ints_one _ _) (by unfold maxLen; omega) (by omega) HSX.out ?_; intro v' w3 hown3 hgr3)
        have HO3 : Hid (w3.ownsRow (w.heap.size + 2) 5 1 v' (min (8 * (j + 1)) L) (ints .u8 (bodyL P f (min (8 * (j + 1)) L)))) := Lib.hid (by
          have h := hown3
          rw [← ints_append, bodyL_append] at h
          rw [show min (8 * (j + 1)) L = 8 * j + (L - 8 * j) by omega]
          exact h)
        have HB03 : Hid (Blk w3 w.heap.size #[.pointer (some ⟨g, 0, none⟩), .int .i64 f, .int .i64 m] 55) := Lib.hid (Blk.grown HB0X.out hgr3 (fun e => by have := own_block HOX.out _ e; omega))
        have HB13 : Hid (Blk w3 (w.heap.size + 1) #[.int .u8 a0, .int .u8 a1, .int .u8 a2, .int .u8 a3, .int .u8 a4, .int .u8 a5, .int .u8 a6, .int .u8 a7] 44) := Lib.hid (Blk.grown HB1X.out hgr3 (fun e => by have := own_block HOX.out _ e; omega))
        have HK3 : Hid (Keep Zero w w3) := Lib.hid (HKwX.out.grown hgr3 (fun k hk => .inr (by have := own_block HOX.out k hk; omega)))
        have hv3 : ∃ A3 c3, v' = .slice A3 (min (8 * (j + 1)) L) c3 := by
          obtain ⟨A3, c3, rfl, _⟩ := Row.own HO3.out
          exact ⟨A3, c3, rfl⟩
        clear hown3 hgr3
        obtain ⟨A3, c3, hv3⟩ := hv3
        rw [hv3] at HO3 ⊢
        clear hv3
        go_wp2_with fail
        go_roundg (m - (j + 1))
        case measure => rw [HM.out]; omega
        case rel => exact ⟨j + 1, A3, c3, by omega, rfl, by go_num, rfl, HO3.out, HB03.out, HB13.out, HK3.out⟩
    · have e8 : min (8 * j) L = L := by omega
      rw [e8] at HO ⊢
      have hx : ¬ (L : Int) < (L : Int) := by omega
      clear e8
      obtain ⟨_, _, he, hrow, hlc, hmx, hab⟩ := Row.own HO.out
      simp only [Value.slice.injEq] at he
      obtain ⟨rfl, _, rfl⟩ := he
      have hnil : A = none → c = 0 := by
        intro hA
        subst hA
        obtain ⟨_, ⟨hv, _⟩ | ⟨_, cap, cur, hv, _⟩⟩ := HO.out
        · simp only [Value.slice.injEq] at hv
          exact hv.2.2
        · simp at hv
      have HRow := Lib.hid (And.intro hrow (And.intro hlc (And.intro hnil hab)))
      have HB1d := Lib.hid HB1.out.drew
      have l1 := HB1.out.lt
      have e6 := HB1.out.cell 6
      have e7 := HB1.out.cell 7
      have HBL : Hid ((bodyL P f L).length = L) := Lib.hid (bodyL_length P f L)
      obtain ⟨zs, hzs⟩ : ∃ zs, zs = headL cn L ++ bodyL P f L := ⟨_, rfl⟩
      have HZ := Lib.hid hzs
      obtain ⟨bb, hbb⟩ : ∃ bb, (((crc zs : Nat) : Int) != bits .or .u16 (IntKind.u16.wrap a6) (IntKind.u16.wrap (IntKind.u16.wrap a7 * 256))) = bb := ⟨_, rfl⟩
      have HBB : Hid ((((crc zs : Nat) : Int) != a6 + a7 * 256) = bb) := Lib.hid (by
        have w6 : IntKind.u16.wrap a6 = a6 := by rw [IntKind.wrap_u16]; omega
        have w7 : IntKind.u16.wrap a7 = a7 := by rw [IntKind.wrap_u16]; omega
        have w8 : IntKind.u16.wrap (a7 * 256) = a7 * 256 := by rw [IntKind.wrap_u16]; omega
        rw [w6, w7, w8, o5] at hbb
        exact hbb)
      have HZb : Hid ((∀ x ∈ zs, 0 ≤ x ∧ x ≤ 255) ∧ zs.length ≤ 1000000000000000) := Lib.hid (by
        rw [hzs]
        refine ⟨fun x hx => ?_, ?_⟩
        · rcases List.mem_append.1 hx with h | h
          · unfold headL at h
            simp only [List.mem_cons, List.not_mem_nil, or_false] at h
            omega
          · unfold bodyL at h
            obtain ⟨i, _, rfl⟩ := List.mem_map.1 h
            exact HW.out _
        · rw [List.length_append, bodyL_length]
          simp [headL]
          omega)
      clear hrow hlc hmx hab hnil hzs
      go_wp2_with fail
      go_region_held3 (fun w' => w'.cell? ⟨w.heap.size + 1, 6, none⟩ = some (.int .u8 a6) ∧ w'.cell? ⟨w.heap.size + 1, 7, none⟩ = some (.int .u8 a7)) (first | (go_keep; done) | exact ⟨(HB1d.out.keep hk4.out id).cell 6, (HB1d.out.keep hk4.out id).cell 7⟩ | exact ⟨((HB1d.out.keep hk4.out id).alloc _).cell 6, ((HB1d.out.keep hk4.out id).alloc _).cell 7⟩ | exact ⟨(((HB1d.out.keep hk4.out id).alloc _).keep hk5.out id).cell 6, (((HB1d.out.keep hk4.out id).alloc _).keep hk5.out id).cell 7⟩) (first | (go_at_call 33; refine (head_h cn L cn0 cn1 (by omega) _).mono ?_; rintro e w4 ⟨hh, rfl, hr4, hk4⟩) | (go_at_call 35; refine (Concat_h w4.heap.size (some ⟨hh, 0, none⟩) A 6 c (headL cn L) (bodyL P f L) 6 L rfl HBL.out (Blk.new w4 _ _) (hr4.out.keep ((Keep.refl Zero w4).alloc _) (fun _ _ _ => id)) (HRow.out.1.keep ((((Keep.refl Zero wr).drew).trans hk4.out (fun i hi => hi.elim)).alloc _) (fun _ _ _ => id)) (fun h => by cases h) HRow.out.2.2.1 (by omega) (by omega) zs HZ.out).mono ?_; rintro e w5 ⟨A5, c5, rfl, hr5, hk5⟩) | (go_at_call 34; refine (CRC16_any A5 c5 zs hr5.out HZb.out.1 HZb.out.2).mono ?_; rintro e w' ⟨rfl, rfl⟩))
      have HK5 : Hid (Keep Zero wr w5) := Lib.hid (((((Keep.refl Zero wr).drew).trans hk4.out (fun i hi => hi.elim)).alloc _).trans hk5.out (fun i hi => hi.elim))
      have HKw5 : Hid (Keep Zero w w5) := Lib.hid (HK.out.trans HK5.out (fun i hi => hi.elim))
      clear hr4 hk4 hr5 hk5
      cases bb with
      | true =>
        have HF : Hid (holdsF P f m = ([], 0)) := Lib.hid (by
          have h := HBB.out
          rw [HZ.out] at h
          have h2 : ¬ ((crc (headL cn L ++ bodyL P f L) : Nat) : Int) = a6 + a7 * 256 := by
            intro e
            rw [e] at h
            simp at h
          exact HR.out.trans (if_neg h2))
        go_wp2
        go_ret2
        rw [HF.out]
        exact ⟨none, 0, rfl, Row.nil _ _, Nat.le_refl _, fun _ => rfl, HKw5.out, fun a ha => by cases ha⟩
      | false =>
        have HF : Hid (holdsF P f m = (bodyL P f L, cn)) := Lib.hid (by
          have h := HBB.out
          rw [HZ.out] at h
          have h2 : ((crc (headL cn L ++ bodyL P f L) : Nat) : Int) = a6 + a7 * 256 := by
            simpa using h
          exact HR.out.trans (if_pos h2))
        go_wp2
        go_ret2
        rw [HF.out]
        refine ⟨A, c, ?_, HRow.out.1.keep HK5.out (fun _ _ _ => id), ?_, HRow.out.2.2.1, HKw5.out, fun a ha => by have := HRow.out.2.2.2 a ha; omega⟩
        · rw [show ((bodyL P f L, cn) : List Int × Int).1.length = L from bodyL_length P f L]
          rfl
        · rw [show ((bodyL P f L, cn) : List Int × Int).1.length = L from bodyL_length P f L]
          exact HRow.out.2.1
theorem holds_any {w : World} {g : Nat} {c : Ch} (h : IsCh w g c) (f m : Nat) (hm : 1 ≤ m) (hf : f + m ≤ c.n) :
    Calls Try.prog 32 #[halfV g f m] w (HoldsPost w (holdsF c.P f m)) := by
  obtain ⟨pg, n, P, left, dead⟩ := c
  by_cases hb : hCnt P f = 0 ∨ 8 * ((m : Int) - 1) < hLen P f
  · exact holds_bad h f m hm hf hb
  · exact holds_good h f m hm hf hb
end Go.Proofs.Ytgegpeicpbhnkaa.Nvm
