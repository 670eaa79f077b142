/- beat's heart. -/
import Derived.Test.YtcmfcnljdeddfaaOwn
import Derived.Lib.Walk
namespace Go.Proofs.Ytcmfcnljdeddfaa.Beat
open Go.RowKit Go.Proofs.Ytcmfcnljdeddfaa.Own

def IsHt (w : World) (g : Nat) (e l : Int) : Prop := Blk w g #[.int .u64 e, .int .u64 l] 78

theorem NewHeart_ok (e : Int) (h0 : 1 ≤ e) (h1 : e ≤ 5) (w : World) :
    Calls Try.prog 6 #[.int .u64 e] w fun en w' => ∃ g, en = .returned (.tuple #[.pointer (some ⟨g, 0, none⟩), .int .i64 0]) ∧ IsHt w' g e e ∧ w.heap.size ≤ g ∧ Keep Zero w w' := by
  have hb : decide (4294967296 < e) = false := by simp; omega
  go_enter Try.func6, Try.ntmps6
  go_wp2
  go_ret2
  exact ⟨_, rfl, Blk.new _ _ _, Nat.le_refl _, (Keep.refl _ _).alloc _⟩

def beats (s : Int) : Prop := s = 4 ∨ s = 5 ∨ s = 127
instance (s : Int) : Decidable (beats s) := by unfold beats; infer_instance
def HeartPost (w : World) (g : Nat) (e l s : Int) (en : Ending) (w' : World) : Prop :=
  ∃ A c, en = .returned (.tuple #[.slice A (if l = 1 ∧ beats s then [s] else []).length c, .bool (decide (l = 1 ∧ beats s))]) ∧ Row w' A (ints .u8 (if l = 1 ∧ beats s then [s] else [])) ∧
    IsHt w' g e (if l = 1 then e else l - 1) ∧ Keep (One g) w w' ∧ ∀ a, A = some a → w.heap.size ≤ a.block

set_option maxHeartbeats 2000000 in
theorem Heart_any {w : World} {g : Nat} {e l s : Int} (h : IsHt w g e l) (h0 : 1 ≤ l) (h1 : l ≤ e) (h2 : e ≤ 5) (hs : s = 0 ∨ s = 4 ∨ s = 5 ∨ s = 127) :
    Calls Try.prog 13 #[.pointer (some ⟨g, 0, none⟩), .int .i64 s] w (HeartPost w g e l s) := by
  have c0 : w.cell? ⟨g, 0, none⟩ = some (.int .u64 e) := h.cell 0
  have c1 : w.cell? ⟨g, 1, none⟩ = some (.int .u64 l) := h.cell 1
  have f0 := h.frozen 0
  have f1 := h.frozen 1
  have H := Lib.hid h
  clear h
  have hb : (e == 0) = false := by simp; omega
  by_cases hl : l = 1
  · subst hl
    rcases hs with rfl | hs
    · go_enter Try.func13, Try.ntmps13
      go_wp2
      go_ret2
      unfold HeartPost
      simp only [true_and, show ¬ beats 0 by decide, if_false]
      refine ⟨_, _, rfl, Row.nil _ _, ?_, ?_, no_addr⟩
      · refine Blk.cast ?_ (rfl)
        exact (H.out.set 1 _).set 1 _
      · exact ((Keep.refl _ _).set1 _ _).set1 _ _
    · have E : Hid (beats s) := hs
      rcases hs with rfl | rfl | rfl
      all_goals
        go_enter Try.func13, Try.ntmps13
        go_wp2
        go_ret2
        unfold HeartPost
        rw [if_pos ⟨rfl, E.out⟩, if_pos rfl, decide_eq_true (show (1 : Int) = 1 ∧ _ from ⟨rfl, E.out⟩)]
        refine ⟨_, _, rfl, ?_, ?_, ?_, new_addr _⟩
        · exact Row.blk (Blk.at_ (by simp)) (fun i x hx => by
            match i, hx with
            | 0, hx => simpa [ints] using hx)
        · exact (((H.out.set 1 _).set 1 _).alloc _).cast rfl
        · exact (((Keep.refl _ _).set1 _ _).set1 _ _).alloc _
  · have hb2 : decide (1 < l) = true := by simp; omega
    have E := Lib.hid hl
    clear hl
    go_enter Try.func13, Try.ntmps13
    go_wp2
    go_ret2
    unfold HeartPost
    rw [if_neg (fun k => E.out k.1), if_neg E.out, decide_eq_false (fun k => E.out k.1)]
    refine ⟨_, _, rfl, Row.nil _ _, ?_, (Keep.refl _ _).set1 _ _, no_addr⟩
    exact (H.out.set 1 _).cast rfl
end Go.Proofs.Ytcmfcnljdeddfaa.Beat
