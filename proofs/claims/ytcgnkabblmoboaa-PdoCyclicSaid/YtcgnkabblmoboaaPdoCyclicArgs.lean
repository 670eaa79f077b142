/- How PdoCyclic's arguments read. -/
import Derived.Test.YtcgnkabblmoboaaPdoCyclic
import Derived.Test.YtcgnkabblmoboaaArgs
namespace Go.Proofs.Ytcgnkabblmoboaa.Pdo
open Go.RowKit Go.Proofs.Ytcgnkabblmoboaa.Own
theorem readsBools : Reads Try.prog 53 (SliceIs BoolIs 1 1) := Reads.slice Try.underlying53 (Reads.bool Try.underlying4) (by kernel_rfl) (by decide) (by kernel_rfl)
theorem boolsAt_of {w : World} {A : Option Addr} {xs : List Bool} (h : RowOf BoolIs 1 w A xs) : BoolsAt w A xs := by
  intro i x hx
  obtain ⟨b, o, cs, rfl, hb, e, hl, hc⟩ := h i x hx
  obtain rfl : cs = _ := e
  refine ⟨b, o, rfl, hb, ?_⟩
  have := hc 0 _ rfl
  simpa using this
theorem cyclic_walk' (t : Int) (t0 : 0 ≤ t) (t1 : t ≤ 255) (A : Option Addr) (c : Nat) (xs : List Bool) (w : World) (h : RowOf BoolIs 1 w A xs) (hb : xs.length * 1 ≤ reachBytes) :
    Calls Try.prog 5 #[.int .u8 t, .slice A xs.length c] w fun e w' => e = .returned (.bool true) ∧ Keep Zero w w' :=
  cyclic_walk t t0 t1 A c xs w (boolsAt_of h) (by unfold reachBytes at hb; omega)
end Go.Proofs.Ytcgnkabblmoboaa.Pdo
