/- How bytes that came in read. -/
import Derived.Test.YtgegpeicpbhnkaaNvmRoom
import Derived.Test.YtgegpeicpbhnkaaArgInts
import Derived.OpenShut
namespace Go.Proofs.Ytgegpeicpbhnkaa.Nvm
open Go.RowKit Go.Proofs.Ytgegpeicpbhnkaa.Own
theorem readsBytes : Reads Try.prog 22 (SliceIs (IntIs .u8) 1 1) := Reads.slice Try.underlying22 (Reads.int Try.underlying5) (by kernel_rfl) (by decide) (by kernel_rfl)
theorem in_of {w : World} {A : Option Addr} {c : Nat} {xs : List Int} (h : RowOf (IntIs .u8) 1 w A xs) (hn : A = none → c = 0) (hb : xs.length * 1 ≤ reachBytes) : In w A c xs :=
  ⟨row_of h, hn, fun x hx => bounds_u8 (wf_of h x hx), by unfold reachBytes at hb; omega⟩
end Go.Proofs.Ytgegpeicpbhnkaa.Nvm
