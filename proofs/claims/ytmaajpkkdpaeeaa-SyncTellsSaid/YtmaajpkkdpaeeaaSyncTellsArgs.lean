/- How SyncTells's arguments read, and the calls that are refused. -/
import Derived.Test.YtmaajpkkdpaeeaaSyncTells
import Derived.Test.YtmaajpkkdpaeeaaArgs
import Derived.OpenShut
namespace Go.Proofs.Ytmaajpkkdpaeeaa.Sync
open Go.RowKit Go.Proofs.Ytmaajpkkdpaeeaa.Own
theorem readsAct : Reads Try.prog 49 (Both (IntIs .i64) (Both (IntIs .u64) (Both BoolIs NoCells))) :=
  Reads.struct (N := 3) Try.underlying49 (by kernel_rfl) (ReadsF.cons (n := 1) (Reads.int Try.underlying3) rfl (by kernel_rfl) (ReadsF.cons (n := 1) (Reads.int Try.underlying23) rfl (by kernel_rfl) (ReadsF.cons (n := 1) (Reads.bool Try.underlying4) rfl (by kernel_rfl) (ReadsF.nil 3))))
theorem readsActs : Reads Try.prog 43 (SliceIs (Both (IntIs .i64) (Both (IntIs .u64) (Both BoolIs NoCells))) 3 24) := Reads.slice Try.underlying43 readsAct (by kernel_rfl) (by decide) (by kernel_rfl)
theorem actsAt_of {w : World} {A : Option Addr} {xs : List (Int × Int × Bool × Unit)} (h : RowOf (Both (IntIs .i64) (Both (IntIs .u64) (Both BoolIs NoCells))) 3 w A xs) : TActsAt w A (xs.map fun x => ⟨x.1, x.2.1, x.2.2.1⟩) := by
  intro i y hy
  rw [List.getElem?_map] at hy
  obtain ⟨x, hx, rfl⟩ := Option.map_eq_some_iff.1 hy
  obtain ⟨b, o, cs, rfl, hb, ⟨c1, c2, rfl, ⟨rfl, _⟩, c3, c4, rfl, ⟨rfl, hw⟩, c5, c6, rfl, e1, h6⟩, hl, hc⟩ := h i x hx
  obtain rfl : c5 = _ := e1
  exact ⟨b, o, rfl, hb, hc 0 _ rfl, hc 1 _ rfl, hc 2 _ rfl, (bounds_u64 hw).1, (bounds_u64 hw).2⟩
set_option maxHeartbeats 2000000 in
theorem tells_bad (p ov : Int) (h : ¬ (1 ≤ p ∧ p ≤ 4294967296 ∧ Cnt ov)) (v : Value) (w : World) :
    Calls Try.prog 5 #[.int .u64 p, .int .i64 ov, v] w fun e w' => e = .returned (.bool true) ∧ Keep Zero w w' := by
  have HH := Lib.hid h
  by_cases h1 : p < 1
  · have b1 : decide (p < 1) = true := decide_eq_true h1
    clear h h1
    go_enter Try.func5, Try.ntmps5
    go_wp2_with (first | ((with_reducible refine (NewP_bad p ov HH.out _).mono ?_); rintro e w' ⟨rfl, rfl⟩) | ((with_reducible refine (lives_any _).mono ?_); rintro e w' ⟨rfl, hk⟩))
    go_ret
    rename_i hk
    exact ⟨rfl, hk.out⟩
  by_cases h2 : 4294967296 < p
  · have b1 : decide (p < 1) = false := decide_eq_false h1
    have b2 : decide (4294967296 < p) = true := decide_eq_true h2
    clear h h1 h2
    go_enter Try.func5, Try.ntmps5
    go_wp2_with (first | ((with_reducible refine (NewP_bad p ov HH.out _).mono ?_); rintro e w' ⟨rfl, rfl⟩) | ((with_reducible refine (lives_any _).mono ?_); rintro e w' ⟨rfl, hk⟩))
    go_ret
    rename_i hk
    exact ⟨rfl, hk.out⟩
  have b1 : decide (p < 1) = false := decide_eq_false h1
  have b2 : decide (4294967296 < p) = false := decide_eq_false h2
  have hb : false = decide (Cnt ov) := by
    have : ¬ Cnt ov := fun k => h ⟨by omega, by omega, k⟩
    simp [this]
  have HB := Lib.hid hb
  clear hb h h1 h2
  go_enter Try.func5, Try.ntmps5
  go_wp2_with (first | ((with_reducible refine (NewP_bad p ov HH.out _).mono ?_); rintro e w' ⟨rfl, rfl⟩) | ((with_reducible refine (RCounts_any ov false HB.out _).mono ?_); rintro e w' ⟨rfl, rfl⟩) | ((with_reducible refine (lives_any _).mono ?_); rintro e w' ⟨rfl, hk⟩))
  go_ret
  rename_i hk
  exact ⟨rfl, hk.out⟩
theorem tells_walk' (p ov : Int) (A : Option Addr) (c : Nat) (xs : List (Int × Int × Bool × Unit)) (w : World) (h : RowOf (Both (IntIs .i64) (Both (IntIs .u64) (Both BoolIs NoCells))) 3 w A xs) (hb : xs.length * 24 ≤ reachBytes) :
    Calls Try.prog 5 #[.int .u64 p, .int .i64 ov, .slice A xs.length c] w fun e w' => e = .returned (.bool true) ∧ Keep Zero w w' := by
  by_cases hc : 1 ≤ p ∧ p ≤ 4294967296 ∧ Cnt ov
  · have hl : (xs.map fun x => (⟨x.1, x.2.1, x.2.2.1⟩ : TAct)).length = xs.length := List.length_map _
    have hwk := tells_walk p ov hc.1 hc.2.1 hc.2.2 A c _ w (actsAt_of h) (by rw [hl]; unfold reachBytes at hb; omega)
    rw [hl] at hwk
    exact hwk
  · exact tells_bad p ov hc _ w
end Go.Proofs.Ytmaajpkkdpaeeaa.Sync
