/- How nmt's laws' arguments read. -/
import Derived.Test.YtghnegidhfmphaaArgs
import Derived.Test.YtghnegidhfmphaaNmtRuns
namespace Go.Proofs.Ytghnegidhfmphaa.Nmt
open Go.RowKit Go.Proofs.Ytghnegidhfmphaa.Own
theorem readsBytes : Reads Try.prog 27 (SliceIs (IntIs .u8) 1 1) := Reads.slice Try.underlying27 (Reads.int Try.underlying5) (by kernel_rfl) (by decide) (by kernel_rfl)
theorem readsAct : Reads Try.prog 29 (Both (IntIs .i64) (Both (IntIs .i64) (Both (SliceIs (IntIs .u8) 1 1) NoCells))) :=
  Reads.struct (N := 3) Try.underlying29 (by kernel_rfl) (ReadsF.cons (n := 1) (Reads.int Try.underlying3) rfl (by kernel_rfl) (ReadsF.cons (n := 1) (Reads.int Try.underlying3) rfl (by kernel_rfl) (ReadsF.cons (n := 1) readsBytes rfl (by kernel_rfl) (ReadsF.nil 3))))
theorem readsActs : Reads Try.prog 22 (SliceIs (Both (IntIs .i64) (Both (IntIs .i64) (Both (SliceIs (IntIs .u8) 1 1) NoCells))) 3 40) := Reads.slice Try.underlying22 readsAct (by kernel_rfl) (by decide) (by kernel_rfl)

theorem actsAt_of {w : World} {A : Option Addr} {xs : List (Int × Int × List Int × Unit)} (h : RowOf (Both (IntIs .i64) (Both (IntIs .i64) (Both (SliceIs (IntIs .u8) 1 1) NoCells))) 3 w A xs) :
    ActsAt w A (xs.map fun x => ⟨x.1, x.2.1, x.2.2.1⟩) := by
  intro i y hy
  rw [List.getElem?_map] at hy
  obtain ⟨x, hx, rfl⟩ := Option.map_eq_some_iff.1 hy
  obtain ⟨b, o, cs, rfl, hb, ⟨c1, c2, rfl, ⟨rfl, _⟩, c3, c4, rfl, ⟨rfl, _⟩, c5, c6, rfl, ⟨A', c', rfl, h1, h2, h3, h4, h5⟩, h6⟩, hl, hc⟩ := h i x hx
  refine ⟨b, o, rfl, hb, ?_, ?_, A', c', ?_, ⟨rfl, ?_, ?_⟩, h3, ?_⟩
  · exact hc 0 _ rfl
  · exact hc 1 _ rfl
  · exact hc 2 _ rfl
  · intro j v hv
    rw [ints_get] at hv
    obtain ⟨z, hz, rfl⟩ := Option.map_eq_some_iff.1 hv
    obtain ⟨b', o', cs', rfl, hb', ⟨rfl, hw⟩, hl', hc'⟩ := h5 j z hz
    exact ⟨b', o', rfl, hb', by simpa using hc' 0 _ rfl⟩
  · intro z hz
    obtain ⟨j, hj⟩ := List.getElem?_of_mem hz
    obtain ⟨b', o', cs', rfl, hb', ⟨rfl, hw⟩, hl', hc'⟩ := h5 j z hj
    exact bounds_u8 hw
  · unfold reachBytes at h4
    simpa using h4
end Go.Proofs.Ytghnegidhfmphaa.Nmt
