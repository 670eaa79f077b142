/- What nmt's Command and the law's lives come to. -/
import Derived.Test.YtcmfcnljdeddfaaTopB
namespace Go.Proofs.Ytcmfcnljdeddfaa.Nmt
open Go.RowKit Go.Proofs.Ytcmfcnljdeddfaa.Own

/-- A command that can be. -/
def Can (c n : Int) : Prop := (c = 1 ∨ c = 2 ∨ c = 128 ∨ c = 129 ∨ c = 130) ∧ 0 ≤ n ∧ n ≤ 127
instance (c n : Int) : Decidable (Can c n) := by unfold Can; infer_instance
def CommandPost (w : World) (c n : Int) (e : Ending) (w' : World) : Prop :=
  ∃ A m, e = .returned (.tuple #[.slice A (if Can c n then [c, n] else []).length m, .int .i64 (if Can c n then 0 else 1)]) ∧ Row w' A (ints .u8 (if Can c n then [c, n] else [])) ∧ (if Can c n then [c, n] else []).length ≤ m ∧ (∀ a, A = some a → w.heap.size ≤ a.block) ∧ Keep Zero w w'
set_option maxHeartbeats 4000000 in
theorem Command_any (c n : Int) (w : World) : Calls Try.prog 10 #[.int .i64 c, .int .i64 n] w (CommandPost w c n) := by
  by_cases hc : c = 1 ∨ c = 2 ∨ c = 128 ∨ c = 129 ∨ c = 130
  · by_cases hn : 0 ≤ n ∧ n ≤ 127
    · have hb : (decide (0 ≤ n) && decide (n ≤ 127)) = true := by simp [hn]
      have E : Hid (Can c n) := ⟨hc, hn⟩
      obtain ⟨n0, n1⟩ := hn
      rcases hc with rfl | rfl | rfl | rfl | rfl
      all_goals
        go_enter Try.func10, Try.ntmps10
        go_wp2_with ((with_reducible refine (number_any n _).mono ?_); rintro e w' ⟨rfl, rfl⟩; rw [hb])
        go_ret2
        unfold CommandPost
        rw [if_pos E.out, if_pos E.out]
        refine ⟨_, _, rfl, ?_, Nat.le_refl _, new_addr _, (Keep.refl _ _).alloc _⟩
        exact Row.blk (Blk.new _ _ _) (fun i v hv => by simpa [ints] using hv)
    · have hb : (decide (0 ≤ n) && decide (n ≤ 127)) = false := by simpa using hn
      have E : Hid (¬ Can c n) := fun k => hn k.2
      clear hn
      rcases hc with rfl | rfl | rfl | rfl | rfl
      all_goals
        go_enter Try.func10, Try.ntmps10
        go_wp2_with ((with_reducible refine (number_any n _).mono ?_); rintro e w' ⟨rfl, rfl⟩; rw [hb])
        go_ret2
        unfold CommandPost
        rw [if_neg E.out, if_neg E.out]
        exact ⟨_, _, rfl, Row.nil _ _, Nat.le_refl _, no_addr, Keep.refl _ _⟩
  · have E : Hid (¬ Can c n) := fun k => hc k.1
    have e1 : (c == 1) = false := by simp; omega
    have e2 : (c == 2) = false := by simp; omega
    have e3 : (c == 128) = false := by simp; omega
    have e4 : (c == 129) = false := by simp; omega
    have e5 : (c == 130) = false := by simp; omega
    clear hc
    go_enter Try.func10, Try.ntmps10
    go_wp2
    go_ret2
    unfold CommandPost
    rw [if_neg E.out, if_neg E.out]
    exact ⟨_, _, rfl, Row.nil _ _, Nat.le_refl _, no_addr, Keep.refl _ _⟩

end Go.Proofs.Ytcmfcnljdeddfaa.Nmt
