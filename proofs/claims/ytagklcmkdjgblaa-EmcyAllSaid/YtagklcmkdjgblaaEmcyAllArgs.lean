/- How EmcyAll's arguments read. -/
import Derived.Test.YtagklcmkdjgblaaEmcyAll
import Derived.Test.YtagklcmkdjgblaaEmcyArgs
namespace Go.Proofs.Ytagklcmkdjgblaa.Emcy
open Go.RowKit Go.Proofs.Ytagklcmkdjgblaa.Own
theorem all_walk' (A B : Option Addr) (ca cb : Nat) (xs : List (Int × Int × List Int × Unit)) (gs : List Int) (w : World) (hA : RowOf TrK 7 w A xs) (hl : xs.length * 8 ≤ reachBytes) (hB : RowOf (IntIs .u8) 1 w B gs) (hg : gs.length * 1 ≤ reachBytes) :
    Calls Try.prog 4 #[.slice A xs.length ca, .slice B gs.length cb] w fun e w' => e = .returned (.bool true) ∧ Keep Zero w w' := by
  have h := trs_of hA
  have hlen : (xs.map trOf).length = xs.length := List.length_map _
  have hw := all_walk A ca (xs.map trOf) B cb gs w h.1 (by rw [hlen]; unfold reachBytes at hl; omega) h.2 (row_of hB) (by unfold reachBytes at hg; omega) (fun x hx => bounds_u8 (wf_of hB x hx))
  rw [hlen] at hw
  exact hw
end Go.Proofs.Ytagklcmkdjgblaa.Emcy
