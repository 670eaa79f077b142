/- What New, Cut, Power, Dead, Room and halves come to. -/
import Derived.Test.YtgegpeicpbhnkaaNvmC
namespace Go.Proofs.Ytgegpeicpbhnkaa.Nvm
open Go.RowKit Go.Proofs.Ytgegpeicpbhnkaa.Own Go.Proofs.Ytgegpeicpbhnkaa.Crc
theorem under49 : Try.prog.underlying 49 = some (.slice 44) := by kernel_rfl
theorem info44 : (Try.prog.info? 44).map (fun i => (i.zero, i.size, i.bytes)) = some (some (.agg #[.int .u8 0, .int .u8 0, .int .u8 0, .int .u8 0, .int .u8 0, .int .u8 0, .int .u8 0, .int .u8 0]), 8, 8) := by kernel_rfl
def Ch.new (pg n : Nat) : Ch := ⟨pg, n, fun _ => 0, -1, false⟩
theorem New_bad (n : Int) (h : n < 4 ∨ 32768 < n) (w : World) : Calls Try.prog 8 #[.int .i64 n] w fun e w' => e = .returned (.tuple #[.pointer none, .int .i64 1]) ∧ w = w' := by
  by_cases h1 : n < 4
  · have b1 : decide (n < 4) = true := decide_eq_true h1
    clear h h1
    go_enter Try.func8, Try.ntmps8
    go_wp2
    go_ret2
    exact ⟨rfl, rfl⟩
  · have b1 : decide (n < 4) = false := decide_eq_false h1
    have b2 : decide (32768 < n) = true := by simp; omega
    clear h h1
    go_enter Try.func8, Try.ntmps8
    go_wp2
    go_ret2
    exact ⟨rfl, rfl⟩
set_option maxHeartbeats 1000000 in
theorem New_ok (n : Nat) (h0 : 4 ≤ n) (h1 : n ≤ 32768) (w : World) : Calls Try.prog 8 #[.int .i64 n] w fun e w' => ∃ g pg, e = .returned (.tuple #[.pointer (some ⟨g, 0, none⟩), .int .i64 0]) ∧ IsCh w' g (Ch.new pg n) ∧ w.heap.size ≤ g ∧ w.heap.size ≤ pg ∧ Keep Zero w w' := by
  obtain ⟨i, hi0, hz, hsize, hby⟩ := info_parts info44
  have hmk : Sem.run Try.prog (Instr.makeSlice 49 (.int .i64 n) (.int .i64 n)) w = _ := run_make w 49 44 i _ under49 hi0 hz .i64 .i64 n n (by omega) (by omega) (by rw [hby]; omega) (by omega)
  rw [Int.toNat_natCast, hsize] at hmk
  have b1 : decide ((n : Int) < 4) = false := by simp; omega
  have b2 : decide ((32768 : Int) < n) = false := by simp; omega
  clear hi0 hz hsize hby
  go_enter Try.func8, Try.ntmps8
  go_wp2
  go_ret2
  refine ⟨_, w.heap.size, rfl, ⟨?_, ?_, ?_, fun _ => ⟨Int.le_refl _, by simp [Ch.new]⟩, h0, h1, by simp [Ch.new], by simp [Ch.new]⟩, ?_, Nat.le_refl _, ?_⟩
  · exact Blk.at_ (by simp)
  · refine Pages.alloc ⟨_, Blk.new w _ _, ?_, ?_⟩ _
    · simp [madeCells, Ch.new]
      omega
    · intro i hi
      simp only [Ch.new] at hi
      simp [madeCells, Ch.new]
      refine ⟨i, ?_, ?_⟩
      · rw [Array.getElem?_range, if_pos (by omega)]
      · have h8 : i % 8 < 8 := Nat.mod_lt _ (by decide)
        generalize i % 8 = j at h8
        match j, h8 with
        | 0, _ => rfl
        | 1, _ => rfl
        | 2, _ => rfl
        | 3, _ => rfl
        | 4, _ => rfl
        | 5, _ => rfl
        | 6, _ => rfl
        | 7, _ => rfl
  · simp [Ch.new]
  · simp
  · exact ((Keep.refl Zero w).alloc _).alloc _
def Ch.cut (c : Ch) (k : Int) : Ch := { c with left := max k (-1) }
set_option maxHeartbeats 1000000 in
theorem Cut_any {w : World} {g : Nat} {c : Ch} (h : IsCh w g c) (k : Int) (hk : k ≤ 9223372036854775807) : Calls Try.prog 13 #[.pointer (some ⟨g, 0, none⟩), .int .i64 k] w fun e w' => e = .returned (.tuple #[]) ∧ IsCh w' g (c.cut k) ∧ Keep (One g) w w' := by
  have c1 : w.cell? ⟨g, 1, none⟩ = some (.int .i64 c.left) := h.chip.cell 1
  have f1 := h.chip.frozen 1
  have H := Lib.hid h
  clear h
  by_cases hlt : k < -1
  · have E : Hid (c.cut k = { c with left := -1 }) := Lib.hid (by unfold Ch.cut; congr 1; omega)
    rw [E.out]
    go_enter Try.func13, Try.ntmps13
    go_wp2
    go_end0
    refine ⟨rfl, ⟨?_, ?_, H.out.ne, H.out.wf, H.out.n0, H.out.n1, by simp, by simp⟩, ?_⟩
    · apply Blk.cast
      · repeat (first | (with_reducible first | apply Blk.alloc | apply Blk.set | apply Blk.drewN | apply Blk.drew) | exact H.out.chip)
      · simp [Ch.cells]
    · repeat (first | exact H.out.pages | apply Pages.alloc | apply Pages.set_far _ (fun e => H.out.ne e.symm))
    · repeat (with_reducible first | exact Keep.refl _ _ | apply Keep.set1 | apply Keep.alloc | apply Keep.drewN | apply Keep.drew)
  · have E : Hid (c.cut k = { c with left := k }) := Lib.hid (by unfold Ch.cut; congr 1; omega)
    have hge : -1 ≤ k := by omega
    rw [E.out]
    clear hlt
    go_enter Try.func13, Try.ntmps13
    go_wp2
    go_end0
    refine ⟨rfl, ⟨?_, ?_, H.out.ne, H.out.wf, H.out.n0, H.out.n1, hge, hk⟩, ?_⟩
    · apply Blk.cast
      · repeat (first | (with_reducible first | apply Blk.alloc | apply Blk.set | apply Blk.drewN | apply Blk.drew) | exact H.out.chip)
      · simp [Ch.cells]
    · repeat (first | exact H.out.pages | apply Pages.alloc | apply Pages.set_far _ (fun e => H.out.ne e.symm))
    · repeat (with_reducible first | exact Keep.refl _ _ | apply Keep.set1 | apply Keep.alloc | apply Keep.drewN | apply Keep.drew)
def Ch.power (c : Ch) : Ch := { c with left := -1, dead := false }
set_option maxHeartbeats 1000000 in
theorem Power_any {w : World} {g : Nat} {c : Ch} (h : IsCh w g c) : Calls Try.prog 15 #[.pointer (some ⟨g, 0, none⟩)] w fun e w' => e = .returned (.tuple #[]) ∧ IsCh w' g c.power ∧ Keep (One g) w w' := by
  have c1 : w.cell? ⟨g, 1, none⟩ = some (.int .i64 c.left) := h.chip.cell 1
  have c2 : w.cell? ⟨g, 2, none⟩ = some (.bool c.dead) := h.chip.cell 2
  have f1 := h.chip.frozen 1
  have f2 := h.chip.frozen 2
  have H := Lib.hid h
  clear h
  go_enter Try.func15, Try.ntmps15
  go_wp2
  go_end0
  refine ⟨rfl, ⟨?_, ?_, H.out.ne, H.out.wf, H.out.n0, H.out.n1, by simp [Ch.power], by simp [Ch.power]⟩, ?_⟩
  · apply Blk.cast
    · repeat (first | (with_reducible first | apply Blk.alloc | apply Blk.set | apply Blk.drewN | apply Blk.drew) | exact H.out.chip)
    · simp [Ch.cells, Ch.power]
  · repeat (first | exact H.out.pages | apply Pages.alloc | apply Pages.set_far _ (fun e => H.out.ne e.symm))
  · repeat (with_reducible first | exact Keep.refl _ _ | apply Keep.set1 | apply Keep.alloc | apply Keep.drewN | apply Keep.drew)
theorem Dead_any {w : World} {g : Nat} {c : Ch} (h : IsCh w g c) : Calls Try.prog 14 #[.pointer (some ⟨g, 0, none⟩)] w fun e w' => e = .returned (.bool c.dead) ∧ w = w' := by
  have c2 : w.cell? ⟨g, 2, none⟩ = some (.bool c.dead) := h.chip.cell 2
  clear h
  go_enter Try.func14, Try.ntmps14
  go_wp2
  go_ret
  exact ⟨rfl, rfl⟩
theorem Room_any {w : World} {g : Nat} {c : Ch} (h : IsCh w g c) : Calls Try.prog 11 #[.pointer (some ⟨g, 0, none⟩)] w fun e w' => e = .returned (.int .i64 (8 * ((c.n : Int) / 2 - 1))) ∧ w = w' := by
  have c0 : w.cell? ⟨g, 0, none⟩ = some (.slice (some ⟨c.pg, 0, none⟩) c.n c.n) := h.chip.cell 0
  have n0 := h.n0
  have n1 := h.n1
  clear h
  go_enter Try.func11, Try.ntmps11
  go_wp2
  go_ret
  exact ⟨rfl, rfl⟩
def halfV (g f m : Nat) : Value := .agg #[.pointer (some ⟨g, 0, none⟩), .int .i64 f, .int .i64 m]
set_option maxHeartbeats 1000000 in
theorem halves_any {w : World} {g : Nat} {c : Ch} (h : IsCh w g c) : Calls Try.prog 21 #[.pointer (some ⟨g, 0, none⟩)] w fun e w' => e = .returned (.agg #[.pointer (some ⟨g, 0, none⟩), .int .i64 0, .int .i64 ((c.n / 2 : Nat) : Int), .pointer (some ⟨g, 0, none⟩), .int .i64 ((c.n / 2 : Nat) : Int), .int .i64 ((c.n / 2 : Nat) : Int)]) ∧ Keep Zero w w' := by
  have c0 : w.cell? ⟨g, 0, none⟩ = some (.slice (some ⟨c.pg, 0, none⟩) c.n c.n) := h.chip.cell 0
  have n0 := h.n0
  have n1 := h.n1
  have glt := h.chip.lt
  have h2 : ((c.n : Int) / 2) = ((c.n / 2 : Nat) : Int) := by omega
  have H2 := Lib.hid h2
  clear h h2
  go_enter Try.func21, Try.ntmps21
  go_wp2
  refine bodyPost_ret (v := .agg #[.pointer (some ⟨g, 0, none⟩), .int .i64 0, .int .i64 ((c.n : Int) / 2), .pointer (some ⟨g, 0, none⟩), .int .i64 ((c.n : Int) / 2), .int .i64 ((c.n : Int) / 2)]) (by simp [results, Try.results21, go_sem]) rfl ?_
  rw [H2.out]
  exact ⟨rfl, (Keep.refl _ _).alloc _⟩
end Go.Proofs.Ytgegpeicpbhnkaa.Nvm
