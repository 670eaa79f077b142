/- How EmcyHistory's arguments read. -/
import Derived.Test.YtagklcmkdjgblaaEmcyHistory
import Derived.Test.YtagklcmkdjgblaaEmcyArgs
namespace Go.Proofs.Ytagklcmkdjgblaa.Emcy
open Go.RowKit Go.Proofs.Ytagklcmkdjgblaa.Own
theorem history_walk' (h : Int) (i0 : 0 ≤ h) (i1 : h ≤ 255) (A : Option Addr) (ca : Nat) (xs : List (Int × Int × List Int × Unit)) (w : World) (hA : RowOf TrK 7 w A xs) (hl : xs.length * 8 ≤ reachBytes) :
    Calls Try.prog 5 #[.int .u8 h, .slice A xs.length ca] w fun e w' => e = .returned (.bool true) ∧ Keep Zero w w' := by
  have hr := trs_of hA
  have hlen : (xs.map trOf).length = xs.length := List.length_map _
  have hw := history_walk h i0 i1 A ca (xs.map trOf) w hr.1 (by rw [hlen]; unfold reachBytes at hl; omega) hr.2
  rw [hlen] at hw
  exact hw
end Go.Proofs.Ytagklcmkdjgblaa.Emcy
