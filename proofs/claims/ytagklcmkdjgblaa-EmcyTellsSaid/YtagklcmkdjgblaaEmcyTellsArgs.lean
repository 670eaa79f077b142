/- How EmcyTells's arguments read, and the calls that are refused. -/
import Derived.Test.YtagklcmkdjgblaaEmcyTells
import Derived.Test.YtagklcmkdjgblaaEmcyArgs
namespace Go.Proofs.Ytagklcmkdjgblaa.Emcy
open Go.RowKit Go.Proofs.Ytagklcmkdjgblaa.Own
def ActK : World → Int × (Int × Int × List Int × Unit) × Unit → List Value → Prop := Both (IntIs .i64) (Both TrK NoCells)
theorem readsAct : Reads Try.prog 52 ActK :=
  Reads.struct (N := 8) Try.underlying52 (by kernel_rfl) (ReadsF.cons (n := 1) (Reads.int Try.underlying3) rfl (by kernel_rfl) (ReadsF.cons (n := 7) readsTr rfl (by kernel_rfl) (ReadsF.nil 8)))
theorem readsActs : Reads Try.prog 46 (SliceIs ActK 8 16) := Reads.slice Try.underlying46 readsAct (by kernel_rfl) (by decide) (by kernel_rfl)
theorem actsAt_of {w : World} {A : Option Addr} {xs : List (Int × (Int × Int × List Int × Unit) × Unit)} (h : RowOf ActK 8 w A xs) : TActsAt w A (xs.map fun x => ⟨x.1, trOf x.2.1⟩) := by
  intro i y hy
  rw [List.getElem?_map] at hy
  obtain ⟨x, hx, rfl⟩ := Option.map_eq_some_iff.1 hy
  obtain ⟨b, o, cs, rfl, hb, ⟨c1, c2, rfl, ⟨rfl, _⟩, c3, c4, rfl, h3, h4⟩, hl, hc⟩ := h i x hx
  obtain rfl : c4 = [] := h4
  obtain ⟨rfl, hw⟩ := tr_cells h3
  exact ⟨b, o, rfl, hb, hw, hc 0 _ rfl, hc 1 _ rfl, hc 2 _ rfl, hc 3 _ rfl, hc 4 _ rfl, hc 5 _ rfl, hc 6 _ rfl, hc 7 _ rfl⟩
set_option maxRecDepth 100000 in
set_option maxHeartbeats 2000000 in
theorem tells_bad (m q : Int) (h : ¬ (1 ≤ m ∧ m ≤ 254 ∧ q ≤ 4294967296)) (v : Value) (w : World) :
    Calls Try.prog 6 #[.int .i64 m, .int .u64 q, v] w fun e w' => e = .returned (.bool true) ∧ Keep Zero w w' := by
  have HH := Lib.hid h
  by_cases h1 : m < 1
  · have b1 : decide (m < 1) = true := decide_eq_true h1
    clear h h1
    go_enter Try.func6, Try.ntmps6
    go_wp2_with (first | ((with_reducible refine (New_bad m q HH.out _).mono ?_); rintro e w' ⟨rfl, rfl⟩) | ((with_reducible refine (lives_any _).mono ?_); rintro e w' ⟨rfl, hk⟩))
    go_ret
    rename_i hk
    exact ⟨rfl, hk.out⟩
  by_cases h2 : 254 < m
  · have b1 : decide (m < 1) = false := decide_eq_false h1
    have b2 : decide (254 < m) = true := decide_eq_true h2
    clear h h1 h2
    go_enter Try.func6, Try.ntmps6
    go_wp2_with (first | ((with_reducible refine (New_bad m q HH.out _).mono ?_); rintro e w' ⟨rfl, rfl⟩) | ((with_reducible refine (lives_any _).mono ?_); rintro e w' ⟨rfl, hk⟩))
    go_ret
    rename_i hk
    exact ⟨rfl, hk.out⟩
  have b1 : decide (m < 1) = false := decide_eq_false h1
  have b2 : decide (254 < m) = false := decide_eq_false h2
  have b3 : decide (4294967296 < q) = true := decide_eq_true (by omega)
  clear h h1 h2
  go_enter Try.func6, Try.ntmps6
  go_wp2_with (first | ((with_reducible refine (New_bad m q HH.out _).mono ?_); rintro e w' ⟨rfl, rfl⟩) | ((with_reducible refine (lives_any _).mono ?_); rintro e w' ⟨rfl, hk⟩))
  go_ret
  rename_i hk
  exact ⟨rfl, hk.out⟩
theorem tells_walk' (m q : Int) (q0 : 0 ≤ q) (A : Option Addr) (c : Nat) (xs : List (Int × (Int × Int × List Int × Unit) × Unit)) (w : World) (h : RowOf ActK 8 w A xs) (hb : xs.length * 16 ≤ reachBytes) :
    Calls Try.prog 6 #[.int .i64 m, .int .u64 q, .slice A xs.length c] w fun e w' => e = .returned (.bool true) ∧ Keep Zero w w' := by
  by_cases hc : 1 ≤ m ∧ m ≤ 254 ∧ q ≤ 4294967296
  · have hl : (xs.map fun x => (⟨x.1, trOf x.2.1⟩ : TAct)).length = xs.length := List.length_map _
    have hwk := tells_walk m q hc.1 hc.2.1 q0 hc.2.2 A c _ w (actsAt_of h) (by rw [hl]; unfold reachBytes at hb; omega)
    rw [hl] at hwk
    exact hwk
  · exact tells_bad m q hc _ w
end Go.Proofs.Ytagklcmkdjgblaa.Emcy
