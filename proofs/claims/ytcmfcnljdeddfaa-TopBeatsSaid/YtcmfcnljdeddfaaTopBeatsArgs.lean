/- How TopBeats's arguments read. -/
import Derived.Test.YtcmfcnljdeddfaaTopBeats
import Derived.Test.YtcmfcnljdeddfaaArgInts
namespace Go.Proofs.Ytcmfcnljdeddfaa.Beat
open Go.RowKit Go.Proofs.Ytcmfcnljdeddfaa.Own
theorem readsBytes : Reads Try.prog 22 (SliceIs (IntIs .u8) 1 1) := Reads.slice Try.underlying22 (Reads.int Try.underlying5) (by kernel_rfl) (by decide) (by kernel_rfl)
theorem beats_walk' (x : Int) (x0 : 0 ≤ x) (x1 : x ≤ 255) (A : Option Addr) (ca : Nat) (xs : List Int) (w : World) (hA : RowOf (IntIs .u8) 1 w A xs) (hl : xs.length * 1 ≤ reachBytes) :
    Calls Try.prog 3 #[.slice A xs.length ca, .int .u8 x] w fun e w' => e = .returned (.bool true) ∧ Keep Zero w w' :=
  beats_walk w A ca xs x (row_of hA) (fun y hy => bounds_u8 (wf_of hA y hy)) (by unfold reachBytes at hl; omega) x0 x1
end Go.Proofs.Ytcmfcnljdeddfaa.Beat
