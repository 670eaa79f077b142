/- How BlockSends's arguments read. -/
import Derived.Test.YtdmomhbimhggiaaBlockSends
import Derived.Test.YtdmomhbimhggiaaBlockArgs
namespace Go.Proofs.Ytdmomhbimhggiaa.Block
open Go.RowKit Go.Proofs.Ytdmomhbimhggiaa.Own
theorem readsFrame : Reads Try.prog 30 (ArrIs (IntIs .u8) 8) := Reads.array (e := 5) Try.underlying30 (Reads.int Try.underlying5) (by kernel_rfl) (by kernel_rfl)
theorem readsFrames : Reads Try.prog 23 (SliceIs (ArrIs (IntIs .u8) 8) 8 8) := Reads.slice Try.underlying23 readsFrame (by kernel_rfl) (by decide) (by kernel_rfl)
def asF (x : List Int) : Nat → Int := fun k => x.getD k 0
theorem cells_asF : ∀ (x : List Int), x.length = 8 → cells8 (asF x) = ints .u8 x
  | [_, _, _, _, _, _, _, _], _ => rfl
theorem elem_frame {w : World} {A : Option Addr} {i : Nat} {x : List Int} (h : ElemAt (ArrIs (IntIs .u8) 8) 8 w A i x) :
    (∀ k, 0 ≤ asF x k ∧ asF x k ≤ 255) ∧ ∃ b o, A = some ⟨b, o, none⟩ ∧ b < w.heap.size ∧ ∀ k v, (cells8 (asF x))[k]? = some v → w.cell? ⟨b, o + (i * 8 + k), none⟩ = some v := by
  obtain ⟨b, o, cs, rfl, hb, ⟨hx, hcs, hel⟩, hl, hc⟩ := h
  refine ⟨fun k => ?_, b, o, rfl, hb, fun k v hv => ?_⟩
  · unfold asF
    rw [List.getD_eq_getElem?_getD]
    rcases hk : x[k]? with _ | y
    · simp
    · obtain ⟨v, _, e, hw⟩ := hel k y hk
      exact bounds_u8 hw
  · rw [cells_asF x hx, ints_get] at hv
    obtain ⟨y, hy, rfl⟩ := Option.map_eq_some_iff.1 hv
    obtain ⟨v, hcv, e, _⟩ := hel k y hy
    simp only [List.cons.injEq, and_true] at e
    have := hc k v hcv
    rw [← e, ← Nat.add_assoc]
    exact this
theorem cells_at : ∀ (l : List (Nat → Int)) (i : Nat) (v : Value), (cellsOf l)[i]? = some v → ∃ f, l[i / 8]? = some f ∧ (cells8 f)[i % 8]? = some v
  | [], i, v, h => by simp [cellsOf] at h
  | x :: l, i, v, h => by
    have e : cellsOf (x :: l) = cells8 x ++ cellsOf l := rfl
    rw [e] at h
    by_cases hi : i < 8
    · rw [List.getElem?_append_left (by simpa [cells8] using hi)] at h
      exact ⟨x, by rw [show i / 8 = 0 by omega]; rfl, by rw [show i % 8 = i by omega]; exact h⟩
    · rw [List.getElem?_append_right (by simp [cells8]; omega)] at h
      have e2 : i - (cells8 x).length = i - 8 := by simp [cells8]
      rw [e2] at h
      obtain ⟨f, h1, h2⟩ := cells_at l (i - 8) v h
      refine ⟨f, ?_, ?_⟩
      · rw [show i / 8 = (i - 8) / 8 + 1 by omega, List.getElem?_cons_succ]
        exact h1
      · rw [show i % 8 = (i - 8) % 8 by omega]
        exact h2
theorem frames_of {w : World} {A : Option Addr} {xs : List (List Int)} (h : RowOf (ArrIs (IntIs .u8) 8) 8 w A xs) : Row w A (cellsOf (xs.map asF)) ∧ ∀ F ∈ xs.map asF, ∀ k, 0 ≤ F k ∧ F k ≤ 255 := by
  refine ⟨fun i v hv => ?_, fun F hF => ?_⟩
  · obtain ⟨f, hf, hv2⟩ := cells_at _ i v hv
    rw [List.getElem?_map] at hf
    obtain ⟨x, hx, rfl⟩ := Option.map_eq_some_iff.1 hf
    obtain ⟨_, b, o, rfl, hb, hc⟩ := elem_frame (h (i / 8) x hx)
    refine ⟨b, o, rfl, hb, ?_⟩
    have := hc (i % 8) v hv2
    rw [show i / 8 * 8 + i % 8 = i by omega] at this
    exact this
  · obtain ⟨x, hx, rfl⟩ := List.mem_map.1 hF
    obtain ⟨i, hi⟩ := List.getElem?_of_mem hx
    exact (elem_frame (h i x hi)).1
theorem sends_walk' (A B : Option Addr) (c q : Nat) (xs : List Int) (sz : Int) (fs : List (List Int)) (w : World) (h : In w A c xs) (hb : xs.length * 1 ≤ reachBytes) (hz : -9223372036854775808 ≤ sz ∧ sz ≤ 9223372036854775807) (hB : RowOf (ArrIs (IntIs .u8) 8) 8 w B fs) (hq : fs.length ≤ q) :
    Calls Try.prog 3 #[.slice A xs.length c, .int .i64 sz, .slice B fs.length q] w fun e w' => e = .returned (.bool true) ∧ Keep Own.Zero w w' := by
  have hl : (fs.map asF).length = fs.length := List.length_map _
  have hw := sends_walk A B c q xs sz (fs.map asF) w h (by unfold reachBytes at hb; omega) hz.1 hz.2 (frames_of hB).1 (frames_of hB).2 (by rw [hl]; exact hq)
  rw [hl] at hw
  exact hw
end Go.Proofs.Ytdmomhbimhggiaa.Block
