/- SyncCounts: how its argument reads, and the calls that are refused. -/
import Derived.Test.YtmaajpkkdpaeeaaSyncCounts
import Derived.OpenShut
namespace Go.Proofs.Ytmaajpkkdpaeeaa.Sync
open Go.RowKit Go.Proofs.Ytmaajpkkdpaeeaa.Own
theorem readsTk : Reads Try.prog 62 (Both (IntIs .i64) (Both BoolIs (Both (IntIs .u64) NoCells))) :=
  Reads.struct (N := 3) Try.underlying62 (by kernel_rfl) (ReadsF.cons (n := 1) (Reads.int Try.underlying3) rfl (by kernel_rfl) (ReadsF.cons (n := 1) (Reads.bool Try.underlying4) rfl (by kernel_rfl) (ReadsF.cons (n := 1) (Reads.int Try.underlying23) rfl (by kernel_rfl) (ReadsF.nil 3))))
theorem readsTks : Reads Try.prog 57 (SliceIs (Both (IntIs .i64) (Both BoolIs (Both (IntIs .u64) NoCells))) 3 24) := Reads.slice Try.underlying57 readsTk (by kernel_rfl) (by decide) (by kernel_rfl)
theorem tksAt_of {w : World} {A : Option Addr} {xs : List (Int × Bool × Int × Unit)} (h : RowOf (Both (IntIs .i64) (Both BoolIs (Both (IntIs .u64) NoCells))) 3 w A xs) : TksAt w A (xs.map fun x => ⟨x.1, x.2.1, x.2.2.1⟩) := by
  intro i y hy
  rw [List.getElem?_map] at hy
  obtain ⟨x, hx, rfl⟩ := Option.map_eq_some_iff.1 hy
  obtain ⟨b, o, cs, rfl, hb, ⟨c1, c2, rfl, ⟨rfl, _⟩, c3, c4, rfl, e1, c5, c6, rfl, ⟨rfl, hw⟩, h6⟩, hl, hc⟩ := h i x hx
  obtain rfl : c3 = _ := e1
  exact ⟨b, o, rfl, hb, hc 0 _ rfl, hc 1 _ rfl, hc 2 _ rfl, bounds_u64 hw⟩
set_option maxHeartbeats 2000000 in
theorem counts_bad (ov win : Int) (h : ¬ (Cnt ov ∧ win ≤ 4294967296)) (v : Value) (w : World) :
    Calls Try.prog 7 #[.int .i64 ov, .int .u64 win, v] w fun e w' => e = .returned (.bool true) ∧ Hid (Keep Zero w w') := by
  have HH := Lib.hid h
  by_cases h1 : Cnt ov
  · have hb : true = decide (Cnt ov) := by simp [h1]
    have HB := Lib.hid hb
    have b2 : decide (4294967296 < win) = true := by simp; exact Int.not_le.1 (fun k => h ⟨h1, k⟩)
    clear hb h h1
    go_enter Try.func7, Try.ntmps7
    go_wp2_with (first | ((with_reducible refine (NewC_bad ov win HH.out _).mono ?_); rintro e w' ⟨rfl, rfl⟩) | ((with_reducible refine (RCounts_any ov true HB.out _).mono ?_); rintro e w' ⟨rfl, rfl⟩) | ((with_reducible refine (lives_any _).mono ?_); rintro e w' ⟨rfl, hk⟩))
    go_ret
    exact ⟨rfl, by assumption⟩
  · have hb : false = decide (Cnt ov) := by simp [h1]
    have HB := Lib.hid hb
    clear hb h h1
    go_enter Try.func7, Try.ntmps7
    go_wp2_with (first | ((with_reducible refine (NewC_bad ov win HH.out _).mono ?_); rintro e w' ⟨rfl, rfl⟩) | ((with_reducible refine (RCounts_any ov false HB.out _).mono ?_); rintro e w' ⟨rfl, rfl⟩) | ((with_reducible refine (lives_any _).mono ?_); rintro e w' ⟨rfl, hk⟩))
    go_ret
    exact ⟨rfl, by assumption⟩
theorem counts_walk' (ov win : Int) (A : Option Addr) (c : Nat) (xs : List (Int × Bool × Int × Unit)) (w : World) (h : RowOf (Both (IntIs .i64) (Both BoolIs (Both (IntIs .u64) NoCells))) 3 w A xs) (hb : xs.length * 24 ≤ reachBytes) :
    Calls Try.prog 7 #[.int .i64 ov, .int .u64 win, .slice A xs.length c] w fun e w' => e = .returned (.bool true) ∧ Keep Zero w w' := by
  by_cases hc : Cnt ov ∧ win ≤ 4294967296
  · have hl : (xs.map fun x => (⟨x.1, x.2.1, x.2.2.1⟩ : Tk)).length = xs.length := List.length_map _
    have hwk := counts_walk ov win hc.1 hc.2 A c _ w (tksAt_of h) (by rw [hl]; unfold reachBytes at hb; omega)
    rw [hl] at hwk
    exact hwk
  · exact counts_bad ov win hc _ w
end Go.Proofs.Ytmaajpkkdpaeeaa.Sync
