/- How the block laws' arguments read. -/
import Derived.Test.YtdmomhbimhggiaaBlockI
import Derived.Test.YtdmomhbimhggiaaArgInts
import Derived.OpenShut
namespace Go.Proofs.Ytdmomhbimhggiaa.Block
open Go.RowKit Go.Proofs.Ytdmomhbimhggiaa.Own
theorem readsBytes : Reads Try.prog 22 (SliceIs (IntIs .u8) 1 1) := Reads.slice Try.underlying22 (Reads.int Try.underlying5) (by kernel_rfl) (by decide) (by kernel_rfl)
theorem readsBools : Reads Try.prog 50 (SliceIs BoolIs 1 1) := Reads.slice Try.underlying50 (Reads.bool Try.underlying4) (by kernel_rfl) (by decide) (by kernel_rfl)
theorem in_of {w : World} {A : Option Addr} {c : Nat} {xs : List Int} (h : RowOf (IntIs .u8) 1 w A xs) (hn : A = none → c = 0) (hc : xs.length ≤ c) : In w A c xs :=
  ⟨row_of h, hn, hc, fun x hx => bounds_u8 (wf_of h x hx)⟩
theorem bools_of {w : World} {A : Option Addr} {xs : List Bool} (h : RowOf BoolIs 1 w A xs) : Row w A (xs.map Value.bool) := by
  intro i v hv
  rw [List.getElem?_map] at hv
  obtain ⟨x, hx, rfl⟩ := Option.map_eq_some_iff.1 hv
  obtain ⟨b, o, cs, rfl, hb, h1, hl, hc⟩ := h i x hx
  obtain rfl : cs = _ := h1
  refine ⟨b, o, rfl, hb, ?_⟩
  have := hc 0 _ rfl
  simpa using this
end Go.Proofs.Ytdmomhbimhggiaa.Block
