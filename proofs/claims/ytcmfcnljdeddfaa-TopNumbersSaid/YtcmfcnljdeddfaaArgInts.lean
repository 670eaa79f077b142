/- A slice of integers that came in: its cells, and each number's bounds. -/
import Derived.Test.YtcmfcnljdeddfaaArgs
namespace Go.Proofs.Ytcmfcnljdeddfaa.Own
open Go.RowKit Go.ChangeShapes Go.WideShapes Go.Deep
theorem row_of {k : IntKind} {w : World} {A : Option Addr} {xs : List Int} (h : RowOf (IntIs k) 1 w A xs) : Row w A (ints k xs) := by
  intro i v hv
  rw [ints_get] at hv
  obtain ⟨x, hx, rfl⟩ := Option.map_eq_some_iff.1 hv
  obtain ⟨b, o, cs, rfl, hb, ⟨rfl, _⟩, hl, hc⟩ := h i x hx
  refine ⟨b, o, rfl, hb, ?_⟩
  have := hc 0 _ rfl
  simpa using this
theorem wf_of {k : IntKind} {w : World} {A : Option Addr} {xs : List Int} (h : RowOf (IntIs k) 1 w A xs) : ∀ x ∈ xs, (Lit.int k x).wf = true := by
  intro x hx
  obtain ⟨i, hi⟩ := List.getElem?_of_mem hx
  obtain ⟨b, o, cs, rfl, hb, ⟨rfl, hw⟩, hl, hc⟩ := h i x hi
  exact hw
end Go.Proofs.Ytcmfcnljdeddfaa.Own
