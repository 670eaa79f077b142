/- What the chip's own calls come to. -/
import Derived.Test.YtgegpeicpbhnkaaNvmB
import Derived.Outline
import Derived.BigRegion
import Derived.Deep.RegionHeld
namespace Go.Proofs.Ytgegpeicpbhnkaa.Nvm
open Go.RowKit Go.Proofs.Ytgegpeicpbhnkaa.Own Go.Proofs.Ytgegpeicpbhnkaa.Crc
structure Ch where
  pg : Nat
  n : Nat
  P : Nat → Int
  left : Int
  dead : Bool
def Ch.cells (c : Ch) : Array Value := #[.slice (some ⟨c.pg, 0, none⟩) c.n c.n, .int .i64 c.left, .bool c.dead]
def Pages (w : World) (pg n : Nat) (P : Nat → Int) : Prop := ∃ cs, Blk w pg cs 44 ∧ cs.size = 8 * n ∧ ∀ i, i < 8 * n → cs[i]? = some (.int .u8 (P i))
structure IsCh (w : World) (g : Nat) (c : Ch) : Prop where
  chip : Blk w g c.cells 51
  pages : Pages w c.pg c.n c.P
  ne : c.pg ≠ g
  wf : ∀ i, 0 ≤ c.P i ∧ c.P i ≤ 255
  n0 : 4 ≤ c.n
  n1 : c.n ≤ 32768
  l0 : -1 ≤ c.left
  l1 : c.left ≤ 9223372036854775807
def Chp (g pg : Nat) : Nat → Prop := fun k => k = g ∨ k = pg
theorem Chp.self (g pg : Nat) : Chp g pg g := .inl rfl
theorem Chp.page (g pg : Nat) : Chp g pg pg := .inr rfl
def pageV (b : Nat → Int) : Value := .agg #[.int .u8 (b 0), .int .u8 (b 1), .int .u8 (b 2), .int .u8 (b 3), .int .u8 (b 4), .int .u8 (b 5), .int .u8 (b 6), .int .u8 (b 7)]
theorem Pages.cell {w : World} {pg n : Nat} {P : Nat → Int} (h : Pages w pg n P) (i : Nat) (hi : i < 8 * n) : w.cell? ⟨pg, i, none⟩ = some (.int .u8 (P i)) := by
  obtain ⟨cs, hb, _, hc⟩ := h
  rw [hb.cell, hc i hi]
theorem Pages.frozen {w : World} {pg n : Nat} {P : Nat → Int} (h : Pages w pg n P) (i : Nat) : w.frozen? ⟨pg, i, none⟩ = false := by
  obtain ⟨cs, hb, _, _⟩ := h
  exact hb.frozen i
theorem Pages.keep {S : Nat → Prop} {w w1 : World} {pg n : Nat} {P : Nat → Int} (h : Pages w pg n P) (k : Keep S w w1) (hn : ¬ S pg) : Pages w1 pg n P := by
  obtain ⟨cs, hb, h1, h2⟩ := h
  exact ⟨cs, hb.keep k hn, h1, h2⟩
theorem IsCh.keep {S : Nat → Prop} {w w1 : World} {g : Nat} {c : Ch} (h : IsCh w g c) (k : Keep S w w1) (h1 : ¬ S g) (h2 : ¬ S c.pg) : IsCh w1 g c :=
  ⟨h.chip.keep k h1, h.pages.keep k h2, h.ne, h.wf, h.n0, h.n1, h.l0, h.l1⟩
theorem Pages.lt {w : World} {pg n : Nat} {P : Nat → Int} (h : Pages w pg n P) : pg < w.heap.size := by
  obtain ⟨cs, hb, _⟩ := h
  exact hb.lt
def put (P : Nat → Int) (k : Nat) (b : Nat → Int) : Nat → Int := fun i => if 8 * k ≤ i ∧ i < 8 * k + 8 then b (i - 8 * k) else P i
theorem is_any {w : World} {g : Nat} {c : Ch} (h : Blk w g c.cells 51) (k : Int) (b : Bool) (hb : b = decide (0 ≤ k ∧ k < c.n)) : Calls Try.prog 36 #[.pointer (some ⟨g, 0, none⟩), .int .i64 k] w fun e w' => e = .returned (.bool b) ∧ w = w' := by
  have c0 : w.cell? ⟨g, 0, none⟩ = some (.slice (some ⟨c.pg, 0, none⟩) c.n c.n) := h.cell 0
  by_cases h0 : 0 ≤ k
  · have b0 : decide (0 ≤ k) = true := decide_eq_true h0
    have e : b = decide (k < c.n) := by rw [hb]; simp [h0]
    have E := Lib.hid e
    clear h hb h0 e
    go_enter Try.func36, Try.ntmps36
    go_wp2
    go_ret
    rw [E.out]
    exact ⟨rfl, rfl⟩
  · have b0 : decide (0 ≤ k) = false := decide_eq_false h0
    have e : b = false := by rw [hb]; simp [h0]
    subst e
    clear h hb h0
    go_enter Try.func36, Try.ntmps36
    go_wp2
    go_ret
    exact ⟨rfl, rfl⟩
def put8 (w : World) (pg k : Nat) (b : Nat → Int) : World :=
  ((((((((w.setCell ⟨pg, k * 8, none⟩ (.int .u8 (b 0))).setCell ⟨pg, k * 8 + 1, none⟩ (.int .u8 (b 1))).setCell ⟨pg, k * 8 + 2, none⟩ (.int .u8 (b 2))).setCell ⟨pg, k * 8 + 3, none⟩ (.int .u8 (b 3))).setCell ⟨pg, k * 8 + 4, none⟩ (.int .u8 (b 4))).setCell ⟨pg, k * 8 + 5, none⟩ (.int .u8 (b 5))).setCell ⟨pg, k * 8 + 6, none⟩ (.int .u8 (b 6))).setCell ⟨pg, k * 8 + 7, none⟩ (.int .u8 (b 7)))
theorem Pages.put {w : World} {pg n : Nat} {P : Nat → Int} (h : Pages w pg n P) (k : Nat) (hk : k < n) (b : Nat → Int) : Pages (put8 w pg k b) pg n (put P k b) := by
  obtain ⟨cs, hb, h1, h2⟩ := h
  refine ⟨_, (((((((hb.set (k * 8) (.int .u8 (b 0))).set (k * 8 + 1) (.int .u8 (b 1))).set (k * 8 + 2) (.int .u8 (b 2))).set (k * 8 + 3) (.int .u8 (b 3))).set (k * 8 + 4) (.int .u8 (b 4))).set (k * 8 + 5) (.int .u8 (b 5))).set (k * 8 + 6) (.int .u8 (b 6))).set (k * 8 + 7) (.int .u8 (b 7)), by simpa using h1, fun i hi => ?_⟩
  have h3 := h2 i hi
  unfold Nvm.put
  simp only [Array.getElem?_setIfInBounds, Array.size_setIfInBounds, h1]
  by_cases hin : 8 * k ≤ i ∧ i < 8 * k + 8
  · rw [if_pos hin]
    obtain ⟨j, hj⟩ : ∃ j, j = i - 8 * k := ⟨_, rfl⟩
    have hj8 : j < 8 := by omega
    rw [← hj]
    obtain rfl : i = 8 * k + j := by omega
    have hsz : 8 * k + j < 8 * n := hi
    match j, hj8 with
    | 0, _ => simp (disch := omega) only [if_pos, if_neg]
    | 1, _ => simp (disch := omega) only [if_pos, if_neg]
    | 2, _ => simp (disch := omega) only [if_pos, if_neg]
    | 3, _ => simp (disch := omega) only [if_pos, if_neg]
    | 4, _ => simp (disch := omega) only [if_pos, if_neg]
    | 5, _ => simp (disch := omega) only [if_pos, if_neg]
    | 6, _ => simp (disch := omega) only [if_pos, if_neg]
    | 7, _ => simp (disch := omega) only [if_pos]
  · rw [if_neg hin]
    simp (disch := omega) only [if_neg]
    exact h3
theorem Keep.put8 {S : Nat → Prop} {w w1 : World} (h : Keep S w w1) {pg : Nat} (hp : S pg) (k : Nat) (b : Nat → Int) : Keep S w (put8 w1 pg k b) := by
  unfold Nvm.put8
  repeat apply Keep.set _ (.inl hp)
  exact h
theorem Pages.set_far {w : World} {pg n : Nat} {P : Nat → Int} (h : Pages w pg n P) {p : Addr} (hp : p.block ≠ pg) (v : Value) : Pages (w.setCell p v) pg n P := by
  obtain ⟨cs, hb, h1, h2⟩ := h
  exact ⟨cs, hb.far hp v, h1, h2⟩
theorem Pages.alloc {w : World} {pg n : Nat} {P : Nat → Int} (h : Pages w pg n P) (o : Go.Obj) : Pages (w.alloc o) pg n P := by
  obtain ⟨cs, hb, h1, h2⟩ := h
  exact ⟨cs, hb.alloc o, h1, h2⟩
theorem Pages.drew {w : World} {pg n : Nat} {P : Nat → Int} (h : Pages w pg n P) : Pages w.drew pg n P := h
theorem put_wf {P b : Nat → Int} {k : Nat} (h : ∀ i, 0 ≤ P i ∧ P i ≤ 255) (hb : ∀ i, 0 ≤ b i ∧ b i ≤ 255) : ∀ i, 0 ≤ put P k b i ∧ put P k b i ≤ 255 := by
  intro i
  unfold put
  split
  · exact hb _
  · exact h i
theorem Blk.put8 {w : World} {g : Nat} {cs : Array Value} {T : TypeId} (h : Blk w g cs T) {pg : Nat} (hp : pg ≠ g) (k : Nat) (b : Nat → Int) : Blk (put8 w pg k b) g cs T := by
  unfold Nvm.put8
  repeat apply Blk.far _ hp
  exact h
/-- What a Write comes to. -/
def Ch.write (c : Ch) (k : Int) (b : Nat → Int) : Bool × Ch :=
  if c.dead = false ∧ 0 ≤ k ∧ k < c.n then (if c.left = 0 then (false, { c with left := -1, dead := true }) else (true, { c with left := if 0 < c.left then c.left - 1 else c.left, P := put c.P k.toNat b })) else (false, c)
def WrPost (w : World) (g : Nat) (r : Bool × Ch) (e : Ending) (w' : World) : Prop := e = .returned (.bool r.1) ∧ IsCh w' g r.2 ∧ Keep (Chp g r.2.pg) w w'
set_option maxHeartbeats 4000000 in
theorem Write_pos {w : World} {g : Nat} {pg n : Nat} {P : Nat → Int} {left : Int} (h : IsCh w g ⟨pg, n, P, left, false⟩) (k : Nat) (hk : k < n) (hl : 0 < left) (b : Nat → Int) (hb : ∀ i, 0 ≤ b i ∧ b i ≤ 255) :
    Calls Try.prog 24 #[.pointer (some ⟨g, 0, none⟩), .int .i64 k, pageV b] w (WrPost w g (true, ⟨pg, n, put P k b, left - 1, false⟩)) := by
  unfold pageV
  have c0 : w.cell? ⟨g, 0, none⟩ = some (.slice (some ⟨pg, 0, none⟩) n n) := h.chip.cell 0
  have c1 : w.cell? ⟨g, 1, none⟩ = some (.int .i64 left) := h.chip.cell 1
  have c2 : w.cell? ⟨g, 2, none⟩ = some (.bool false) := h.chip.cell 2
  have f1 := h.chip.frozen 1
  have f2 := h.chip.frozen 2
  have glt := h.chip.lt
  have plt : pg < w.heap.size := h.pages.lt
  have l0 : -1 ≤ left := h.l0
  have l1 : left ≤ 9223372036854775807 := h.l1
  have H := Lib.hid h
  have hne : pg ≠ g := h.ne
  have hne2 : g ≠ pg := fun e => h.ne e.symm
  clear h
  have HK : Hid (true = decide (0 ≤ (k : Int) ∧ (k : Int) < n)) := Lib.hid (by rw [decide_eq_true]; omega)
  have hk' : (k : Int) < (n : Int) := by omega
  have p0 : w.cell? ⟨pg, k * 8, none⟩ = _ := H.out.pages.cell (k * 8) (by simp only; omega)
  have p1 : w.cell? ⟨pg, k * 8 + 1, none⟩ = _ := H.out.pages.cell (k * 8 + 1) (by simp only; omega)
  have p2 : w.cell? ⟨pg, k * 8 + 2, none⟩ = _ := H.out.pages.cell (k * 8 + 2) (by simp only; omega)
  have p3 : w.cell? ⟨pg, k * 8 + 3, none⟩ = _ := H.out.pages.cell (k * 8 + 3) (by simp only; omega)
  have p4 : w.cell? ⟨pg, k * 8 + 4, none⟩ = _ := H.out.pages.cell (k * 8 + 4) (by simp only; omega)
  have p5 : w.cell? ⟨pg, k * 8 + 5, none⟩ = _ := H.out.pages.cell (k * 8 + 5) (by simp only; omega)
  have p6 : w.cell? ⟨pg, k * 8 + 6, none⟩ = _ := H.out.pages.cell (k * 8 + 6) (by simp only; omega)
  have p7 : w.cell? ⟨pg, k * 8 + 7, none⟩ = _ := H.out.pages.cell (k * 8 + 7) (by simp only; omega)
  have q0 : w.frozen? ⟨pg, k * 8, none⟩ = false := H.out.pages.frozen (k * 8)
  have q1 : w.frozen? ⟨pg, k * 8 + 1, none⟩ = false := H.out.pages.frozen (k * 8 + 1)
  have q2 : w.frozen? ⟨pg, k * 8 + 2, none⟩ = false := H.out.pages.frozen (k * 8 + 2)
  have q3 : w.frozen? ⟨pg, k * 8 + 3, none⟩ = false := H.out.pages.frozen (k * 8 + 3)
  have q4 : w.frozen? ⟨pg, k * 8 + 4, none⟩ = false := H.out.pages.frozen (k * 8 + 4)
  have q5 : w.frozen? ⟨pg, k * 8 + 5, none⟩ = false := H.out.pages.frozen (k * 8 + 5)
  have q6 : w.frozen? ⟨pg, k * 8 + 6, none⟩ = false := H.out.pages.frozen (k * 8 + 6)
  have q7 : w.frozen? ⟨pg, k * 8 + 7, none⟩ = false := H.out.pages.frozen (k * 8 + 7)
  have bl : (left == 0) = false := by simp; omega
  have HBb := Lib.hid hb
  clear hb
  go_enter Try.func24, Try.ntmps24
  go_wp2_with ((with_reducible refine (is_any (c := ⟨pg, n, P, left, false⟩) (Blk.alloc H.out.chip _) k true HK.out).mono ?_); rintro e w' ⟨rfl, rfl⟩)
  go_region
  go_wp2_with fail
  go_ret
  refine ⟨rfl, ⟨?_, ?_, hne, put_wf H.out.wf HBb.out, H.out.n0, H.out.n1, by simp only; omega, by simp only; omega⟩, ?_⟩
  · refine Blk.drew (Blk.alloc (Blk.put8 (Blk.cast (H.out.chip.set 1 _) ?_) hne k b) _)
    simp [Ch.cells]
  · exact Pages.drew (Pages.alloc (Pages.put (Pages.set_far H.out.pages hne2 _) k hk b) _)
  · exact Keep.drew (Keep.alloc (Keep.put8 (Keep.set (Keep.refl _ _) (.inl (.inl rfl)) _) (.inr rfl) k b) _)
set_option maxHeartbeats 4000000 in
theorem Write_neg {w : World} {g : Nat} {pg n : Nat} {P : Nat → Int} {left : Int} (h : IsCh w g ⟨pg, n, P, left, false⟩) (k : Nat) (hk : k < n) (hl : left < 0) (b : Nat → Int) (hb : ∀ i, 0 ≤ b i ∧ b i ≤ 255) :
    Calls Try.prog 24 #[.pointer (some ⟨g, 0, none⟩), .int .i64 k, pageV b] w (WrPost w g (true, ⟨pg, n, put P k b, left, false⟩)) := by
  unfold pageV
  have c0 : w.cell? ⟨g, 0, none⟩ = some (.slice (some ⟨pg, 0, none⟩) n n) := h.chip.cell 0
  have c1 : w.cell? ⟨g, 1, none⟩ = some (.int .i64 left) := h.chip.cell 1
  have c2 : w.cell? ⟨g, 2, none⟩ = some (.bool false) := h.chip.cell 2
  have f1 := h.chip.frozen 1
  have f2 := h.chip.frozen 2
  have glt := h.chip.lt
  have plt : pg < w.heap.size := h.pages.lt
  have l0 : -1 ≤ left := h.l0
  have l1 : left ≤ 9223372036854775807 := h.l1
  have H := Lib.hid h
  have hne : pg ≠ g := h.ne
  have hne2 : g ≠ pg := fun e => h.ne e.symm
  clear h
  have HK : Hid (true = decide (0 ≤ (k : Int) ∧ (k : Int) < n)) := Lib.hid (by rw [decide_eq_true]; omega)
  have hk' : (k : Int) < (n : Int) := by omega
  have p0 : w.cell? ⟨pg, k * 8, none⟩ = _ := H.out.pages.cell (k * 8) (by simp only; omega)
  have p1 : w.cell? ⟨pg, k * 8 + 1, none⟩ = _ := H.out.pages.cell (k * 8 + 1) (by simp only; omega)
  have p2 : w.cell? ⟨pg, k * 8 + 2, none⟩ = _ := H.out.pages.cell (k * 8 + 2) (by simp only; omega)
  have p3 : w.cell? ⟨pg, k * 8 + 3, none⟩ = _ := H.out.pages.cell (k * 8 + 3) (by simp only; omega)
  have p4 : w.cell? ⟨pg, k * 8 + 4, none⟩ = _ := H.out.pages.cell (k * 8 + 4) (by simp only; omega)
  have p5 : w.cell? ⟨pg, k * 8 + 5, none⟩ = _ := H.out.pages.cell (k * 8 + 5) (by simp only; omega)
  have p6 : w.cell? ⟨pg, k * 8 + 6, none⟩ = _ := H.out.pages.cell (k * 8 + 6) (by simp only; omega)
  have p7 : w.cell? ⟨pg, k * 8 + 7, none⟩ = _ := H.out.pages.cell (k * 8 + 7) (by simp only; omega)
  have q0 : w.frozen? ⟨pg, k * 8, none⟩ = false := H.out.pages.frozen (k * 8)
  have q1 : w.frozen? ⟨pg, k * 8 + 1, none⟩ = false := H.out.pages.frozen (k * 8 + 1)
  have q2 : w.frozen? ⟨pg, k * 8 + 2, none⟩ = false := H.out.pages.frozen (k * 8 + 2)
  have q3 : w.frozen? ⟨pg, k * 8 + 3, none⟩ = false := H.out.pages.frozen (k * 8 + 3)
  have q4 : w.frozen? ⟨pg, k * 8 + 4, none⟩ = false := H.out.pages.frozen (k * 8 + 4)
  have q5 : w.frozen? ⟨pg, k * 8 + 5, none⟩ = false := H.out.pages.frozen (k * 8 + 5)
  have q6 : w.frozen? ⟨pg, k * 8 + 6, none⟩ = false := H.out.pages.frozen (k * 8 + 6)
  have q7 : w.frozen? ⟨pg, k * 8 + 7, none⟩ = false := H.out.pages.frozen (k * 8 + 7)
  have bl : (left == 0) = false := by simp; omega
  have HBb := Lib.hid hb
  clear hb
  go_enter Try.func24, Try.ntmps24
  go_wp2_with ((with_reducible refine (is_any (c := ⟨pg, n, P, left, false⟩) (Blk.alloc H.out.chip _) k true HK.out).mono ?_); rintro e w' ⟨rfl, rfl⟩)
  go_region
  go_wp2_with fail
  go_ret
  refine ⟨rfl, ⟨?_, ?_, hne, put_wf H.out.wf HBb.out, H.out.n0, H.out.n1, l0, l1⟩, ?_⟩
  · exact Blk.drew (Blk.alloc (Blk.put8 H.out.chip hne k b) _)
  · exact Pages.drew (Pages.alloc (Pages.put H.out.pages k hk b) _)
  · exact Keep.drew (Keep.alloc (Keep.put8 (Keep.refl _ _) (.inr rfl) k b) _)
set_option maxHeartbeats 4000000 in
theorem Write_cut {w : World} {g : Nat} {pg n : Nat} {P : Nat → Int} (h : IsCh w g ⟨pg, n, P, 0, false⟩) (k : Nat) (hk : k < n) (b : Nat → Int) :
    Calls Try.prog 24 #[.pointer (some ⟨g, 0, none⟩), .int .i64 k, pageV b] w (WrPost w g (false, ⟨pg, n, P, -1, true⟩)) := by
  unfold pageV
  have c0 : w.cell? ⟨g, 0, none⟩ = some (.slice (some ⟨pg, 0, none⟩) n n) := h.chip.cell 0
  have c1 : w.cell? ⟨g, 1, none⟩ = some (.int .i64 0) := h.chip.cell 1
  have c2 : w.cell? ⟨g, 2, none⟩ = some (.bool false) := h.chip.cell 2
  have f1 := h.chip.frozen 1
  have f2 := h.chip.frozen 2
  have glt := h.chip.lt
  have H := Lib.hid h
  have HK : Hid (true = decide (0 ≤ (k : Int) ∧ (k : Int) < n)) := Lib.hid (by rw [decide_eq_true]; omega)
  clear h
  go_enter Try.func24, Try.ntmps24
  go_wp2_with ((with_reducible refine (is_any (c := ⟨pg, n, P, 0, false⟩) (Blk.alloc H.out.chip _) k true HK.out).mono ?_); rintro e w' ⟨rfl, rfl⟩)
  go_ret
  refine ⟨rfl, ⟨?_, ?_, H.out.ne, H.out.wf, H.out.n0, H.out.n1, by simp, by simp⟩, ?_⟩
  · apply Blk.cast
    · repeat (first | (with_reducible first | apply Blk.alloc | apply Blk.set | apply Blk.drewN | apply Blk.drew) | exact H.out.chip)
    · simp [Ch.cells]
  · repeat (first | exact H.out.pages | apply Pages.alloc | apply Pages.set_far _ (fun e => H.out.ne e.symm))
  · repeat (with_reducible first | exact Keep.refl _ _ | apply Keep.set _ (.inl (Chp.self g pg)) | apply Keep.alloc | apply Keep.drewN | apply Keep.drew)
set_option maxHeartbeats 4000000 in
theorem Write_dead {w : World} {g : Nat} {c : Ch} (h : IsCh w g c) (hd : c.dead = true) (k : Int) (b : Nat → Int) :
    Calls Try.prog 24 #[.pointer (some ⟨g, 0, none⟩), .int .i64 k, pageV b] w (WrPost w g (false, c)) := by
  unfold pageV
  have c2 : w.cell? ⟨g, 2, none⟩ = some (.bool true) := hd ▸ h.chip.cell 2
  have glt := h.chip.lt
  have H := Lib.hid h
  clear h hd
  go_enter Try.func24, Try.ntmps24
  go_wp2
  go_ret
  exact ⟨rfl, H.out.keep ((Keep.refl Zero _).alloc _) id id, (Keep.refl _ _).alloc _⟩
set_option maxHeartbeats 4000000 in
theorem Write_out {w : World} {g : Nat} {c : Ch} (h : IsCh w g c) (hd : c.dead = false) (k : Int) (hk : ¬ (0 ≤ k ∧ k < c.n)) (b : Nat → Int) :
    Calls Try.prog 24 #[.pointer (some ⟨g, 0, none⟩), .int .i64 k, pageV b] w (WrPost w g (false, c)) := by
  unfold pageV
  have c2 : w.cell? ⟨g, 2, none⟩ = some (.bool false) := hd ▸ h.chip.cell 2
  have glt := h.chip.lt
  have H := Lib.hid h
  have HK : Hid (false = decide (0 ≤ k ∧ k < c.n)) := Lib.hid (by simp [hk])
  clear h hd hk
  go_enter Try.func24, Try.ntmps24
  go_wp2_with ((with_reducible refine (is_any (c := c) (Blk.alloc H.out.chip _) k false HK.out).mono ?_); rintro e w' ⟨rfl, rfl⟩)
  go_ret
  exact ⟨rfl, H.out.keep ((Keep.refl Zero _).alloc _) id id, (Keep.refl _ _).alloc _⟩
theorem Ch.write_pg (c : Ch) (k : Int) (b : Nat → Int) : (c.write k b).2.pg = c.pg := by
  unfold Ch.write
  split
  · split <;> rfl
  · rfl
theorem Write_any {w : World} {g : Nat} {c : Ch} (h : IsCh w g c) (k : Int) (b : Nat → Int) (hb : ∀ i, 0 ≤ b i ∧ b i ≤ 255) :
    Calls Try.prog 24 #[.pointer (some ⟨g, 0, none⟩), .int .i64 k, pageV b] w (WrPost w g (c.write k b)) := by
  unfold Ch.write
  by_cases hd : c.dead = false
  · by_cases hk : 0 ≤ k ∧ k < c.n
    · rw [if_pos ⟨hd, hk⟩]
      obtain ⟨pg, n, P, left, dead⟩ := c
      obtain rfl : dead = false := hd
      obtain ⟨k', rfl⟩ : ∃ k' : Nat, k = k' := ⟨k.toNat, by omega⟩
      have hk' : k' < n := by have := hk.2; simp only at this; omega
      by_cases hl : left = 0
      · subst hl
        rw [if_pos rfl]
        exact Write_cut h k' hk' b
      · rw [if_neg hl]
        by_cases hp : 0 < left
        · have e : (if 0 < left then left - 1 else left) = left - 1 := if_pos hp
          simp only [e]
          exact Write_pos h k' hk' hp b hb
        · have e : (if 0 < left then left - 1 else left) = left := if_neg hp
          simp only [e]
          exact Write_neg h k' hk' (by omega) b hb
    · rw [if_neg (fun h => hk h.2)]
      exact Write_out h hd k hk b
  · rw [if_neg (fun h => hd h.1)]
    exact Write_dead h (by simpa using hd) k b
end Go.Proofs.Ytgegpeicpbhnkaa.Nvm
