/- How PdoStops's arguments read. -/
import Derived.Test.YtcgnkabblmoboaaPdoArgs
import Derived.Test.YtcgnkabblmoboaaPdoStops
namespace Go.Proofs.Ytcgnkabblmoboaa.Pdo
open Go.RowKit Go.Proofs.Ytcgnkabblmoboaa.Own
theorem stops_walk' (cs : Array Value) (y : Int × Int × Int × Unit) (A C : Option Addr) (c n : Nat) (xs zs : List (Int × Bool × Int × Unit)) (w : World) (hf : Both (IntIs .i64) (Both (IntIs .u64) (Both (IntIs .u64) NoCells)) w y cs.toList)
    (h : RowOf (Both (IntIs .i64) (Both BoolIs (Both (IntIs .u8) NoCells))) 3 w A xs) (hb : xs.length * 16 ≤ reachBytes)
    (h' : RowOf (Both (IntIs .i64) (Both BoolIs (Both (IntIs .u8) NoCells))) 3 w C zs) (hb' : zs.length * 16 ≤ reachBytes) :
    Calls Try.prog 6 #[.agg cs, .slice A xs.length c, .slice C zs.length n] w fun e w' => e = .returned (.bool true) ∧ Keep Zero w w' := by
  obtain ⟨t, i, v, e, i0, v0⟩ := form_of hf
  rw [e]
  have hl : (xs.map fun x => (⟨x.1, x.2.1, x.2.2.1⟩ : PAct)).length = xs.length := List.length_map _
  have hm : (zs.map fun x => (⟨x.1, x.2.1, x.2.2.1⟩ : PAct)).length = zs.length := List.length_map _
  have hwk := stops_walk t i v i0 A C c n _ _ w (actsAt_of h) (actsAt_of h') (by rw [hl]; unfold reachBytes at hb; omega) (by rw [hm]; unfold reachBytes at hb'; omega)
  rw [hl, hm] at hwk
  exact hwk
end Go.Proofs.Ytcgnkabblmoboaa.Pdo
