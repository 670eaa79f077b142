/- The document's chip: its pages. -/
import Derived.Test.YtgegpeicpbhnkaaNvmC
namespace Go.Proofs.Ytgegpeicpbhnkaa.Nvm
open Go.RowKit Go.Proofs.Ytgegpeicpbhnkaa.Own Go.Proofs.Ytgegpeicpbhnkaa.Crc
/-- The document's chip: the same cells, of another type. -/
structure IsDc (w : World) (g : Nat) (c : Ch) : Prop where
  chip : Blk w g c.cells 62
  pages : Pages w c.pg c.n c.P
  ne : c.pg ≠ g
  wf : ∀ i, 0 ≤ c.P i ∧ c.P i ≤ 255
  n0 : 4 ≤ c.n
  n1 : c.n ≤ 32768
  l0 : -1 ≤ c.left
  l1 : c.left ≤ 9223372036854775807
theorem IsDc.keep {S : Nat → Prop} {w w1 : World} {g : Nat} {c : Ch} (h : IsDc w g c) (k : Keep S w w1) (h1 : ¬ S g) (h2 : ¬ S c.pg) : IsDc w1 g c :=
  ⟨h.chip.keep k h1, h.pages.keep k h2, h.ne, h.wf, h.n0, h.n1, h.l0, h.l1⟩
def DWrPost (w : World) (g : Nat) (r : Bool × Ch) (e : Ending) (w' : World) : Prop := e = .returned (.bool r.1) ∧ IsDc w' g r.2 ∧ Keep (Chp g r.2.pg) w w'
theorem DNext_is (k : Nat) (w : World) (hk : k ≤ 100000) : Calls Try.prog 37 #[.int .i64 k] w fun e w' => e = .returned (.int .i64 ((k % 65535 + 1 : Nat) : Int)) ∧ w = w' := by
  have hm : (k : Int).tmod 65535 = ((k % 65535 : Nat) : Int) := by rw [Int.tmod_eq_emod_of_nonneg (by omega)]; omega
  obtain ⟨v, hv⟩ : ∃ v, v = k % 65535 := ⟨_, rfl⟩
  have hvb : v ≤ 65535 := by omega
  rw [← hv] at hm ⊢
  have hm2 : (k : Int) % 65535 = (v : Int) := by omega
  clear hv
  go_enter Try.func37, Try.ntmps37
  go_wp2_with fail
  go_ret
  exact ⟨by go_num, rfl⟩
set_option maxHeartbeats 1000000 in
theorem DWrite_dead {w : World} {g : Nat} {pg n : Nat} {P : Nat → Int} {left : Int} (h : IsDc w g ⟨pg, n, P, left, true⟩) (k : Int) (b : Nat → Int) :
    Calls Try.prog 25 #[.pointer (some ⟨g, 0, none⟩), .int .i64 k, pageV b] w (DWrPost w g (false, ⟨pg, n, P, left, true⟩)) := by
  unfold pageV
  have c0 : ∀ o, (w.alloc o).cell? ⟨g, 0, none⟩ = some (.slice (some ⟨pg, 0, none⟩) n n) := fun o => (h.chip.alloc o).cell 0
  have c1 : ∀ o, (w.alloc o).cell? ⟨g, 1, none⟩ = some (.int .i64 left) := fun o => (h.chip.alloc o).cell 1
  have c2 : ∀ o, (w.alloc o).cell? ⟨g, 2, none⟩ = some (.bool true) := fun o => (h.chip.alloc o).cell 2
  have f1 : ∀ o, (w.alloc o).frozen? ⟨g, 1, none⟩ = false := fun o => (h.chip.alloc o).frozen 1
  have c0w : w.cell? ⟨g, 0, none⟩ = some (.slice (some ⟨pg, 0, none⟩) n n) := h.chip.cell 0
  have c1w : w.cell? ⟨g, 1, none⟩ = some (.int .i64 left) := h.chip.cell 1
  have c2w : w.cell? ⟨g, 2, none⟩ = some (.bool true) := h.chip.cell 2
  have f1w := h.chip.frozen 1
  have f2w := h.chip.frozen 2
  have f2 : ∀ o, (w.alloc o).frozen? ⟨g, 2, none⟩ = false := fun o => (h.chip.alloc o).frozen 2
  have glt := h.chip.lt
  have plt : pg < w.heap.size := h.pages.lt
  have l0 : -1 ≤ left := h.l0
  have l1 : left ≤ 9223372036854775807 := h.l1
  have H := Lib.hid h
  have hne : pg ≠ g := h.ne
  have hne2 : g ≠ pg := fun e => h.ne e.symm
  clear h
  go_enter Try.func25, Try.ntmps25
  by_cases h1 : k < 0
  · go_wp2_with fail
    go_ret
    exact ⟨rfl, H.out.keep ((Keep.refl Zero w).alloc _) id id, (Keep.refl _ _).alloc _⟩
  · have h1' : 0 ≤ k := by omega
    by_cases h2 : (n : Int) ≤ k
    · go_wp2_with fail
      go_ret
      exact ⟨rfl, H.out.keep ((Keep.refl Zero w).alloc _) id id, (Keep.refl _ _).alloc _⟩
    · have h2' : k < (n : Int) := by omega
      go_wp2_with fail
      go_ret
      exact ⟨rfl, H.out.keep ((Keep.refl Zero w).alloc _) id id, (Keep.refl _ _).alloc _⟩
set_option maxHeartbeats 1000000 in
theorem DWrite_out {w : World} {g : Nat} {pg n : Nat} {P : Nat → Int} {left : Int} (h : IsDc w g ⟨pg, n, P, left, false⟩) (k : Int) (hk : ¬ (0 ≤ k ∧ k < n)) (b : Nat → Int) :
    Calls Try.prog 25 #[.pointer (some ⟨g, 0, none⟩), .int .i64 k, pageV b] w (DWrPost w g (false, ⟨pg, n, P, left, false⟩)) := by
  unfold pageV
  have c0 : ∀ o, (w.alloc o).cell? ⟨g, 0, none⟩ = some (.slice (some ⟨pg, 0, none⟩) n n) := fun o => (h.chip.alloc o).cell 0
  have c1 : ∀ o, (w.alloc o).cell? ⟨g, 1, none⟩ = some (.int .i64 left) := fun o => (h.chip.alloc o).cell 1
  have c2 : ∀ o, (w.alloc o).cell? ⟨g, 2, none⟩ = some (.bool false) := fun o => (h.chip.alloc o).cell 2
  have f1 : ∀ o, (w.alloc o).frozen? ⟨g, 1, none⟩ = false := fun o => (h.chip.alloc o).frozen 1
  have c0w : w.cell? ⟨g, 0, none⟩ = some (.slice (some ⟨pg, 0, none⟩) n n) := h.chip.cell 0
  have c1w : w.cell? ⟨g, 1, none⟩ = some (.int .i64 left) := h.chip.cell 1
  have c2w : w.cell? ⟨g, 2, none⟩ = some (.bool false) := h.chip.cell 2
  have f1w := h.chip.frozen 1
  have f2w := h.chip.frozen 2
  have f2 : ∀ o, (w.alloc o).frozen? ⟨g, 2, none⟩ = false := fun o => (h.chip.alloc o).frozen 2
  have glt := h.chip.lt
  have plt : pg < w.heap.size := h.pages.lt
  have l0 : -1 ≤ left := h.l0
  have l1 : left ≤ 9223372036854775807 := h.l1
  have H := Lib.hid h
  have hne : pg ≠ g := h.ne
  have hne2 : g ≠ pg := fun e => h.ne e.symm
  clear h
  go_enter Try.func25, Try.ntmps25
  by_cases h1 : k < 0
  · clear hk
    go_wp2_with fail
    go_ret
    exact ⟨rfl, H.out.keep ((Keep.refl Zero w).alloc _) id id, (Keep.refl _ _).alloc _⟩
  · have h1' : 0 ≤ k := by omega
    have h2 : (n : Int) ≤ k := by omega
    clear hk
    go_wp2_with fail
    go_ret
    exact ⟨rfl, H.out.keep ((Keep.refl Zero w).alloc _) id id, (Keep.refl _ _).alloc _⟩
set_option maxHeartbeats 2000000 in
theorem DWrite_cut {w : World} {g : Nat} {pg n : Nat} {P : Nat → Int} (h : IsDc w g ⟨pg, n, P, 0, false⟩) (k : Nat) (hk : k < n) (b : Nat → Int) :
    Calls Try.prog 25 #[.pointer (some ⟨g, 0, none⟩), .int .i64 k, pageV b] w (DWrPost w g (false, ⟨pg, n, P, -1, true⟩)) := by
  unfold pageV
  obtain ⟨left, hl⟩ : ∃ l : Int, l = 0 := ⟨0, rfl⟩
  rw [← hl] at h
  have c0 : ∀ o, (w.alloc o).cell? ⟨g, 0, none⟩ = some (.slice (some ⟨pg, 0, none⟩) n n) := fun o => (h.chip.alloc o).cell 0
  have c1 : ∀ o, (w.alloc o).cell? ⟨g, 1, none⟩ = some (.int .i64 left) := fun o => (h.chip.alloc o).cell 1
  have c2 : ∀ o, (w.alloc o).cell? ⟨g, 2, none⟩ = some (.bool false) := fun o => (h.chip.alloc o).cell 2
  have f1 : ∀ o, (w.alloc o).frozen? ⟨g, 1, none⟩ = false := fun o => (h.chip.alloc o).frozen 1
  have c0w : w.cell? ⟨g, 0, none⟩ = some (.slice (some ⟨pg, 0, none⟩) n n) := h.chip.cell 0
  have c1w : w.cell? ⟨g, 1, none⟩ = some (.int .i64 left) := h.chip.cell 1
  have c2w : w.cell? ⟨g, 2, none⟩ = some (.bool false) := h.chip.cell 2
  have f1w := h.chip.frozen 1
  have f2w := h.chip.frozen 2
  have f2 : ∀ o, (w.alloc o).frozen? ⟨g, 2, none⟩ = false := fun o => (h.chip.alloc o).frozen 2
  have glt := h.chip.lt
  have plt : pg < w.heap.size := h.pages.lt
  have l0 : -1 ≤ left := h.l0
  have l1 : left ≤ 9223372036854775807 := h.l1
  have H := Lib.hid h
  have hne : pg ≠ g := h.ne
  have hne2 : g ≠ pg := fun e => h.ne e.symm
  clear h
  subst hl
  have h1 : ¬ (k : Int) < 0 := by omega
  have h2 : (k : Int) < (n : Int) := by omega
  clear hk
  go_enter Try.func25, Try.ntmps25
  go_wp2_with fail
  go_ret
  have hk2 : Keep (Chp g pg) w ((w.setCell ⟨g, 2, none⟩ (.bool true)).setCell ⟨g, 1, none⟩ (.int .i64 (-1))) := ((Keep.refl (Chp g pg) w).set (.inl (.inl rfl)) _).set (.inl (.inl rfl)) _
  refine ⟨rfl, ⟨?_, ?_, hne, H.out.wf, H.out.n0, H.out.n1, by simp, by simp⟩, hk2.alloc _⟩
  · exact Blk.alloc (Blk.cast ((H.out.chip.set 2 _).set 1 _) (by simp [Ch.cells])) _
  · exact Pages.alloc (Pages.set_far (Pages.set_far H.out.pages hne2 _) hne2 _) _
set_option maxHeartbeats 4000000 in
theorem DWrite_neg {w : World} {g : Nat} {pg n : Nat} {P : Nat → Int} {left : Int} (h : IsDc w g ⟨pg, n, P, left, false⟩) (k : Nat) (hk : k < n) (hl : left < 0) (b : Nat → Int) (hb : ∀ i, 0 ≤ b i ∧ b i ≤ 255) :
    Calls Try.prog 25 #[.pointer (some ⟨g, 0, none⟩), .int .i64 k, pageV b] w (DWrPost w g (true, ⟨pg, n, put P k b, left, false⟩)) := by
  unfold pageV
  have c0 : ∀ o, (w.alloc o).cell? ⟨g, 0, none⟩ = some (.slice (some ⟨pg, 0, none⟩) n n) := fun o => (h.chip.alloc o).cell 0
  have c1 : ∀ o, (w.alloc o).cell? ⟨g, 1, none⟩ = some (.int .i64 left) := fun o => (h.chip.alloc o).cell 1
  have c2 : ∀ o, (w.alloc o).cell? ⟨g, 2, none⟩ = some (.bool false) := fun o => (h.chip.alloc o).cell 2
  have f1 : ∀ o, (w.alloc o).frozen? ⟨g, 1, none⟩ = false := fun o => (h.chip.alloc o).frozen 1
  have c0w : w.cell? ⟨g, 0, none⟩ = some (.slice (some ⟨pg, 0, none⟩) n n) := h.chip.cell 0
  have c1w : w.cell? ⟨g, 1, none⟩ = some (.int .i64 left) := h.chip.cell 1
  have c2w : w.cell? ⟨g, 2, none⟩ = some (.bool false) := h.chip.cell 2
  have f1w := h.chip.frozen 1
  have f2w := h.chip.frozen 2
  have f2 : ∀ o, (w.alloc o).frozen? ⟨g, 2, none⟩ = false := fun o => (h.chip.alloc o).frozen 2
  have glt := h.chip.lt
  have plt : pg < w.heap.size := h.pages.lt
  have l0 : -1 ≤ left := h.l0
  have l1 : left ≤ 9223372036854775807 := h.l1
  have H := Lib.hid h
  have hne : pg ≠ g := h.ne
  have hne2 : g ≠ pg := fun e => h.ne e.symm
  clear h
  have hk' : (k : Int) < (n : Int) := by omega
  have p0 : w.cell? ⟨pg, k * 8, none⟩ = _ := H.out.pages.cell (k * 8) (by simp only; omega)
  have p1 : w.cell? ⟨pg, k * 8 + 1, none⟩ = _ := H.out.pages.cell (k * 8 + 1) (by simp only; omega)
  have p2 : w.cell? ⟨pg, k * 8 + 2, none⟩ = _ := H.out.pages.cell (k * 8 + 2) (by simp only; omega)
  have p3 : w.cell? ⟨pg, k * 8 + 3, none⟩ = _ := H.out.pages.cell (k * 8 + 3) (by simp only; omega)
  have p4 : w.cell? ⟨pg, k * 8 + 4, none⟩ = _ := H.out.pages.cell (k * 8 + 4) (by simp only; omega)
  have p5 : w.cell? ⟨pg, k * 8 + 5, none⟩ = _ := H.out.pages.cell (k * 8 + 5) (by simp only; omega)
  have p6 : w.cell? ⟨pg, k * 8 + 6, none⟩ = _ := H.out.pages.cell (k * 8 + 6) (by simp only; omega)
  have p7 : w.cell? ⟨pg, k * 8 + 7, none⟩ = _ := H.out.pages.cell (k * 8 + 7) (by simp only; omega)
  have q0 : w.frozen? ⟨pg, k * 8, none⟩ = false := H.out.pages.frozen (k * 8)
  have q1 : w.frozen? ⟨pg, k * 8 + 1, none⟩ = false := H.out.pages.frozen (k * 8 + 1)
  have q2 : w.frozen? ⟨pg, k * 8 + 2, none⟩ = false := H.out.pages.frozen (k * 8 + 2)
  have q3 : w.frozen? ⟨pg, k * 8 + 3, none⟩ = false := H.out.pages.frozen (k * 8 + 3)
  have q4 : w.frozen? ⟨pg, k * 8 + 4, none⟩ = false := H.out.pages.frozen (k * 8 + 4)
  have q5 : w.frozen? ⟨pg, k * 8 + 5, none⟩ = false := H.out.pages.frozen (k * 8 + 5)
  have q6 : w.frozen? ⟨pg, k * 8 + 6, none⟩ = false := H.out.pages.frozen (k * 8 + 6)
  have q7 : w.frozen? ⟨pg, k * 8 + 7, none⟩ = false := H.out.pages.frozen (k * 8 + 7)
  have h1 : ¬ (k : Int) < 0 := by omega
  have h3 : ¬ left = 0 := by omega
  have h4 : ¬ 0 < left := by omega
  have HBb := Lib.hid hb
  clear hb
  go_enter Try.func25, Try.ntmps25
  go_wp2_with fail
  go_region
  go_wp2_with fail
  go_ret
  refine ⟨rfl, ⟨?_, ?_, hne, put_wf H.out.wf HBb.out, H.out.n0, H.out.n1, l0, l1⟩, ?_⟩
  · exact Blk.drew (Blk.alloc (Blk.put8 H.out.chip hne k b) _)
  · exact Pages.drew (Pages.alloc (Pages.put H.out.pages k hk b) _)
  · exact Keep.drew (Keep.alloc (Keep.put8 (Keep.refl _ _) (.inr rfl) k b) _)
set_option maxHeartbeats 4000000 in
theorem DWrite_pos {w : World} {g : Nat} {pg n : Nat} {P : Nat → Int} {left : Int} (h : IsDc w g ⟨pg, n, P, left, false⟩) (k : Nat) (hk : k < n) (hl : 0 < left) (b : Nat → Int) (hb : ∀ i, 0 ≤ b i ∧ b i ≤ 255) :
    Calls Try.prog 25 #[.pointer (some ⟨g, 0, none⟩), .int .i64 k, pageV b] w (DWrPost w g (true, ⟨pg, n, put P k b, left - 1, false⟩)) := by
  unfold pageV
  have c0 : ∀ o, (w.alloc o).cell? ⟨g, 0, none⟩ = some (.slice (some ⟨pg, 0, none⟩) n n) := fun o => (h.chip.alloc o).cell 0
  have c1 : ∀ o, (w.alloc o).cell? ⟨g, 1, none⟩ = some (.int .i64 left) := fun o => (h.chip.alloc o).cell 1
  have c2 : ∀ o, (w.alloc o).cell? ⟨g, 2, none⟩ = some (.bool false) := fun o => (h.chip.alloc o).cell 2
  have f1 : ∀ o, (w.alloc o).frozen? ⟨g, 1, none⟩ = false := fun o => (h.chip.alloc o).frozen 1
  have c0w : w.cell? ⟨g, 0, none⟩ = some (.slice (some ⟨pg, 0, none⟩) n n) := h.chip.cell 0
  have c1w : w.cell? ⟨g, 1, none⟩ = some (.int .i64 left) := h.chip.cell 1
  have c2w : w.cell? ⟨g, 2, none⟩ = some (.bool false) := h.chip.cell 2
  have f1w := h.chip.frozen 1
  have f2w := h.chip.frozen 2
  have f2 : ∀ o, (w.alloc o).frozen? ⟨g, 2, none⟩ = false := fun o => (h.chip.alloc o).frozen 2
  have glt := h.chip.lt
  have plt : pg < w.heap.size := h.pages.lt
  have l0 : -1 ≤ left := h.l0
  have l1 : left ≤ 9223372036854775807 := h.l1
  have H := Lib.hid h
  have hne : pg ≠ g := h.ne
  have hne2 : g ≠ pg := fun e => h.ne e.symm
  clear h
  have hk' : (k : Int) < (n : Int) := by omega
  have p0 : w.cell? ⟨pg, k * 8, none⟩ = _ := H.out.pages.cell (k * 8) (by simp only; omega)
  have p1 : w.cell? ⟨pg, k * 8 + 1, none⟩ = _ := H.out.pages.cell (k * 8 + 1) (by simp only; omega)
  have p2 : w.cell? ⟨pg, k * 8 + 2, none⟩ = _ := H.out.pages.cell (k * 8 + 2) (by simp only; omega)
  have p3 : w.cell? ⟨pg, k * 8 + 3, none⟩ = _ := H.out.pages.cell (k * 8 + 3) (by simp only; omega)
  have p4 : w.cell? ⟨pg, k * 8 + 4, none⟩ = _ := H.out.pages.cell (k * 8 + 4) (by simp only; omega)
  have p5 : w.cell? ⟨pg, k * 8 + 5, none⟩ = _ := H.out.pages.cell (k * 8 + 5) (by simp only; omega)
  have p6 : w.cell? ⟨pg, k * 8 + 6, none⟩ = _ := H.out.pages.cell (k * 8 + 6) (by simp only; omega)
  have p7 : w.cell? ⟨pg, k * 8 + 7, none⟩ = _ := H.out.pages.cell (k * 8 + 7) (by simp only; omega)
  have q0 : w.frozen? ⟨pg, k * 8, none⟩ = false := H.out.pages.frozen (k * 8)
  have q1 : w.frozen? ⟨pg, k * 8 + 1, none⟩ = false := H.out.pages.frozen (k * 8 + 1)
  have q2 : w.frozen? ⟨pg, k * 8 + 2, none⟩ = false := H.out.pages.frozen (k * 8 + 2)
  have q3 : w.frozen? ⟨pg, k * 8 + 3, none⟩ = false := H.out.pages.frozen (k * 8 + 3)
  have q4 : w.frozen? ⟨pg, k * 8 + 4, none⟩ = false := H.out.pages.frozen (k * 8 + 4)
  have q5 : w.frozen? ⟨pg, k * 8 + 5, none⟩ = false := H.out.pages.frozen (k * 8 + 5)
  have q6 : w.frozen? ⟨pg, k * 8 + 6, none⟩ = false := H.out.pages.frozen (k * 8 + 6)
  have q7 : w.frozen? ⟨pg, k * 8 + 7, none⟩ = false := H.out.pages.frozen (k * 8 + 7)
  have h1 : ¬ (k : Int) < 0 := by omega
  have h3 : ¬ left = 0 := by omega
  have hwl : IntKind.i64.wrap (left - 1) = left - 1 := IntWalk.i64_in _ (by omega)
  have HBb := Lib.hid hb
  clear hb
  go_enter Try.func25, Try.ntmps25
  go_wp2_with fail
  go_region
  go_wp2_with fail
  go_ret
  refine ⟨rfl, ⟨?_, ?_, hne, put_wf H.out.wf HBb.out, H.out.n0, H.out.n1, by simp only; omega, by simp only; omega⟩, ?_⟩
  · refine Blk.drew (Blk.alloc (Blk.put8 (Blk.cast (H.out.chip.set 1 _) ?_) hne k b) _)
    simp [Ch.cells]
  · exact Pages.drew (Pages.alloc (Pages.put (Pages.set_far H.out.pages hne2 _) k hk b) _)
  · exact Keep.drew (Keep.alloc (Keep.put8 (Keep.set (Keep.refl _ _) (.inl (.inl rfl)) _) (.inr rfl) k b) _)
theorem DWrite_any {w : World} {g : Nat} {c : Ch} (h : IsDc w g c) (k : Int) (b : Nat → Int) (hb : ∀ i, 0 ≤ b i ∧ b i ≤ 255) :
    Calls Try.prog 25 #[.pointer (some ⟨g, 0, none⟩), .int .i64 k, pageV b] w (DWrPost w g (c.write k b)) := by
  unfold Ch.write
  obtain ⟨pg, n, P, left, dead⟩ := c
  cases dead with
  | true =>
    rw [if_neg (fun h => by cases h.1)]
    exact DWrite_dead h k b
  | false =>
    by_cases hk : 0 ≤ k ∧ k < n
    · rw [if_pos ⟨rfl, hk⟩]
      obtain ⟨k', rfl⟩ : ∃ k' : Nat, k = k' := ⟨k.toNat, by omega⟩
      have hk' : k' < n := by omega
      by_cases hl : left = 0
      · subst hl
        rw [if_pos rfl]
        exact DWrite_cut h k' hk' b
      · rw [if_neg hl]
        by_cases hp : 0 < left
        · have e : (if 0 < left then left - 1 else left) = left - 1 := if_pos hp
          simp only [e]
          exact DWrite_pos h k' hk' hp b hb
        · have e : (if 0 < left then left - 1 else left) = left := if_neg hp
          simp only [e]
          exact DWrite_neg h k' hk' (by omega) b hb
    · rw [if_neg (fun h => hk h.2)]
      exact DWrite_out h k hk b
end Go.Proofs.Ytgegpeicpbhnkaa.Nvm
