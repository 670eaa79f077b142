/- How SyncAll's arguments read. -/
import Derived.Test.YtmaajpkkdpaeeaaSyncAll
import Derived.Test.YtmaajpkkdpaeeaaArgs
import Derived.OpenShut
namespace Go.Proofs.Ytmaajpkkdpaeeaa.Sync
open Go.RowKit Go.Proofs.Ytmaajpkkdpaeeaa.Own
theorem readsForm : Reads Try.prog 34 (Both (IntIs .u8) (Both (IntIs .u8) NoCells)) :=
  Reads.struct (N := 2) Try.underlying34 (by kernel_rfl) (ReadsF.cons (n := 1) (Reads.int Try.underlying5) rfl (by kernel_rfl) (ReadsF.cons (n := 1) (Reads.int Try.underlying5) rfl (by kernel_rfl) (ReadsF.nil 2)))
theorem readsGap : Reads Try.prog 36 (Both (IntIs .u8) (Both (IntIs .u8) (Both (IntIs .u8) NoCells))) :=
  Reads.struct (N := 3) Try.underlying36 (by kernel_rfl) (ReadsF.cons (n := 1) (Reads.int Try.underlying5) rfl (by kernel_rfl) (ReadsF.cons (n := 1) (Reads.int Try.underlying5) rfl (by kernel_rfl) (ReadsF.cons (n := 1) (Reads.int Try.underlying5) rfl (by kernel_rfl) (ReadsF.nil 3))))
theorem all_walk' (cs ds : Array Value) (x : Int × Int × Unit) (y : Int × Int × Int × Unit) (w : World) (hx : Both (IntIs .u8) (Both (IntIs .u8) NoCells) w x cs.toList) (hy : Both (IntIs .u8) (Both (IntIs .u8) (Both (IntIs .u8) NoCells)) w y ds.toList) :
    Calls Try.prog 4 #[.agg cs, .agg ds] w fun e w' => e = .returned (.bool true) ∧ Keep Zero w w' := by
  obtain ⟨l⟩ := cs
  obtain ⟨m⟩ := ds
  obtain ⟨c1, c2, e1, ⟨rfl, h1⟩, c3, c4, rfl, ⟨rfl, h2⟩, rfl⟩ := hx
  obtain ⟨d1, d2, e2, ⟨rfl, g1⟩, d3, d4, rfl, ⟨rfl, g2⟩, d5, d6, rfl, ⟨rfl, g3⟩, rfl⟩ := hy
  obtain rfl : l = _ := e1
  obtain rfl : m = _ := e2
  exact all_walk _ _ _ _ _ (bounds_u8 h1).1 (bounds_u8 h1).2 (bounds_u8 h2).1 (bounds_u8 h2).2 (bounds_u8 g1).1 (bounds_u8 g1).2 (bounds_u8 g2).1 (bounds_u8 g2).2 (bounds_u8 g3).1 (bounds_u8 g3).2 w
end Go.Proofs.Ytmaajpkkdpaeeaa.Sync
