/- How pdo's laws' arguments read. -/
import Derived.Test.YtcgnkabblmoboaaArgs
import Derived.Test.YtcgnkabblmoboaaPdoSends
namespace Go.Proofs.Ytcgnkabblmoboaa.Pdo
open Go.RowKit Go.Proofs.Ytcgnkabblmoboaa.Own
theorem readsForm : Reads Try.prog 39 (Both (IntIs .i64) (Both (IntIs .u64) (Both (IntIs .u64) NoCells))) :=
  Reads.struct (N := 3) Try.underlying39 (by kernel_rfl) (ReadsF.cons (n := 1) (Reads.int Try.underlying3) rfl (by kernel_rfl) (ReadsF.cons (n := 1) (Reads.int Try.underlying37) rfl (by kernel_rfl) (ReadsF.cons (n := 1) (Reads.int Try.underlying37) rfl (by kernel_rfl) (ReadsF.nil 3))))
theorem readsAct : Reads Try.prog 49 (Both (IntIs .i64) (Both BoolIs (Both (IntIs .u8) NoCells))) :=
  Reads.struct (N := 3) Try.underlying49 (by kernel_rfl) (ReadsF.cons (n := 1) (Reads.int Try.underlying3) rfl (by kernel_rfl) (ReadsF.cons (n := 1) (Reads.bool Try.underlying4) rfl (by kernel_rfl) (ReadsF.cons (n := 1) (Reads.int Try.underlying5) rfl (by kernel_rfl) (ReadsF.nil 3))))
theorem readsActs : Reads Try.prog 40 (SliceIs (Both (IntIs .i64) (Both BoolIs (Both (IntIs .u8) NoCells))) 3 16) := Reads.slice Try.underlying40 readsAct (by kernel_rfl) (by decide) (by kernel_rfl)
theorem actsAt_of {w : World} {A : Option Addr} {xs : List (Int × Bool × Int × Unit)} (h : RowOf (Both (IntIs .i64) (Both BoolIs (Both (IntIs .u8) NoCells))) 3 w A xs) : ActsAt w A (xs.map fun x => ⟨x.1, x.2.1, x.2.2.1⟩) := by
  intro i y hy
  rw [List.getElem?_map] at hy
  obtain ⟨x, hx, rfl⟩ := Option.map_eq_some_iff.1 hy
  obtain ⟨b, o, cs, rfl, hb, ⟨c1, c2, rfl, ⟨rfl, _⟩, c3, c4, rfl, e1, c5, c6, rfl, ⟨rfl, hw⟩, h6⟩, hl, hc⟩ := h i x hx
  obtain rfl : c3 = _ := e1
  exact ⟨b, o, rfl, hb, hc 0 _ rfl, hc 1 _ rfl, hc 2 _ rfl, (bounds_u8 hw).1, (bounds_u8 hw).2⟩
theorem form_of {w : World} {cs : Array Value} {x : Int × Int × Int × Unit} (h : Both (IntIs .i64) (Both (IntIs .u64) (Both (IntIs .u64) NoCells)) w x cs.toList) :
    ∃ t i v, Value.agg cs = formV t i v ∧ 0 ≤ i ∧ 0 ≤ v := by
  obtain ⟨l⟩ := cs
  obtain ⟨c1, c2, e, ⟨rfl, _⟩, c3, c4, rfl, ⟨rfl, h1⟩, c5, c6, rfl, ⟨rfl, h2⟩, rfl⟩ := h
  obtain rfl : l = _ := e
  exact ⟨_, _, _, rfl, (bounds_u64 h1).1, (bounds_u64 h2).1⟩
theorem sends_walk' (cs : Array Value) (y : Int × Int × Int × Unit) (A : Option Addr) (c : Nat) (xs : List (Int × Bool × Int × Unit)) (w : World) (hf : Both (IntIs .i64) (Both (IntIs .u64) (Both (IntIs .u64) NoCells)) w y cs.toList)
    (h : RowOf (Both (IntIs .i64) (Both BoolIs (Both (IntIs .u8) NoCells))) 3 w A xs) (hb : xs.length * 16 ≤ reachBytes) :
    Calls Try.prog 7 #[.agg cs, .slice A xs.length c] w fun e w' => e = .returned (.bool true) ∧ Keep Zero w w' := by
  obtain ⟨t, i, v, e, i0, v0⟩ := form_of hf
  rw [e]
  have hl : (xs.map fun x => (⟨x.1, x.2.1, x.2.2.1⟩ : PAct)).length = xs.length := List.length_map _
  have hwk := sends_walk t i v i0 A c _ w (actsAt_of h) (by rw [hl]; unfold reachBytes at hb; omega)
  rw [hl] at hwk
  exact hwk
end Go.Proofs.Ytcgnkabblmoboaa.Pdo
