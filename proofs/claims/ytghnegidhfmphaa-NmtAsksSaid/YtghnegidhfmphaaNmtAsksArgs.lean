/- How NmtAsks's argument reads. -/
import Derived.Test.YtghnegidhfmphaaNmtAsks
import Derived.Test.YtghnegidhfmphaaArgs
namespace Go.Proofs.Ytghnegidhfmphaa.Nmt
open Go.RowKit Go.Proofs.Ytghnegidhfmphaa.Own
theorem readsAsks : Reads Try.prog 48 (Both (IntIs .i64) (Both (IntIs .i64) (Both (IntIs .i64) (Both (IntIs .i64) NoCells)))) :=
  Reads.struct (N := 4) Try.underlying48 (by kernel_rfl) (ReadsF.cons (n := 1) (Reads.int Try.underlying3) rfl (by kernel_rfl) (ReadsF.cons (n := 1) (Reads.int Try.underlying3) rfl (by kernel_rfl) (ReadsF.cons (n := 1) (Reads.int Try.underlying3) rfl (by kernel_rfl) (ReadsF.cons (n := 1) (Reads.int Try.underlying3) rfl (by kernel_rfl) (ReadsF.nil 4)))))
theorem asks_walk' (cs : Array Value) (x : Int × Int × Int × Int × Unit) (w : World) (h : Both (IntIs .i64) (Both (IntIs .i64) (Both (IntIs .i64) (Both (IntIs .i64) NoCells))) w x cs.toList) :
    Calls Try.prog 7 #[.agg cs] w fun e w' => e = .returned (.bool true) ∧ Keep Zero w w' := by
  obtain ⟨l⟩ := cs
  obtain ⟨c1, c2, h0, ⟨rfl, _⟩, c3, c4, rfl, ⟨rfl, _⟩, c5, c6, rfl, ⟨rfl, _⟩, c7, c8, rfl, ⟨rfl, _⟩, rfl⟩ := h
  obtain rfl : l = _ := h0
  by_cases hc : Can x.2.2.1 x.2.2.2.1
  · exact asks_yes _ _ _ _ w hc
  · exact asks_no _ _ _ _ w hc
end Go.Proofs.Ytghnegidhfmphaa.Nmt
