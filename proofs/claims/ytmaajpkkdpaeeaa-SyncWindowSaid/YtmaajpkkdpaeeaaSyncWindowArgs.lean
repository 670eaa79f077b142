/- How SyncWindow's arguments read. -/
import Derived.Test.YtmaajpkkdpaeeaaSyncWindow
import Derived.Test.YtmaajpkkdpaeeaaArgInts
import Derived.OpenShut
namespace Go.Proofs.Ytmaajpkkdpaeeaa.Sync
open Go.RowKit Go.Proofs.Ytmaajpkkdpaeeaa.Own
theorem readsU8s : Reads Try.prog 54 (SliceIs (IntIs .u8) 1 1) := Reads.slice Try.underlying54 (Reads.int Try.underlying5) (by kernel_rfl) (by decide) (by kernel_rfl)
theorem window_walk' (q : Int) (q0 : 0 ≤ q) (q1 : q ≤ 255) (A : Option Addr) (c : Nat) (xs : List Int) (w : World) (h : RowOf (IntIs .u8) 1 w A xs) (hb : xs.length * 1 ≤ reachBytes) :
    Calls Try.prog 6 #[.int .u8 q, .slice A xs.length c] w fun e w' => e = .returned (.bool true) ∧ Keep Zero w w' :=
  window_walk q q0 q1 A c xs (fun x hx => bounds_u8 (wf_of h x hx)) w (row_of h) (by unfold reachBytes at hb; omega)
end Go.Proofs.Ytmaajpkkdpaeeaa.Sync
