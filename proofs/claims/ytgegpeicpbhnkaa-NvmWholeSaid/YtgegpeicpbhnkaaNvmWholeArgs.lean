/- How NvmWhole's arguments read. -/
import Derived.Test.YtgegpeicpbhnkaaNvmWhole
import Derived.Test.YtgegpeicpbhnkaaNvmArgs
namespace Go.Proofs.Ytgegpeicpbhnkaa.Nvm
open Go.RowKit Go.Proofs.Ytgegpeicpbhnkaa.Own
theorem readsRows : Reads Try.prog 33 (SliceIs (SliceIs (IntIs .u8) 1 1) 1 24) := Reads.slice Try.underlying33 readsBytes (by kernel_rfl) (by decide) (by kernel_rfl)
theorem insAt_of {w : World} {A : Option Addr} {xs : List (List Int)} (h : RowOf (SliceIs (IntIs .u8) 1 1) 1 w A xs) : InsAt w A xs := by
  intro i x hx
  obtain ⟨b, o, cs, rfl, hb, ⟨A', c', rfl, h1, h2, h3, h4, h5⟩, hl, hc⟩ := h i x hx
  refine ⟨b, o, A', c', rfl, hb, ?_, in_of h5 h3 h4⟩
  have := hc 0 _ rfl
  simpa using this
theorem whole_walk' (A C : Option Addr) (ca cc : Nat) (xs : List (List Int)) (cs : List Int) (w : World) (hx : RowOf (SliceIs (IntIs .u8) 1 1) 1 w A xs) (hl : xs.length * 24 ≤ reachBytes) (hy : In w C cc cs) :
    Calls Try.prog 4 #[.slice A xs.length ca, .slice C cs.length cc] w fun e w' => e = .returned (.bool true) ∧ Keep Zero w w' :=
  whole_walk A C ca cc xs cs w (insAt_of hx) (by unfold reachBytes at hl; omega) hy
end Go.Proofs.Ytgegpeicpbhnkaa.Nvm
