/- How the emcy laws' arguments read. -/
import Derived.Test.YtagklcmkdjgblaaEmcyE
import Derived.Test.YtagklcmkdjgblaaArgInts
import Derived.OpenShut
namespace Go.Proofs.Ytagklcmkdjgblaa.Emcy
open Go.RowKit Go.Proofs.Ytagklcmkdjgblaa.Own
def TrK : World → Int × Int × List Int × Unit → List Value → Prop := Both (IntIs .u16) (Both (IntIs .u8) (Both (ArrIs (IntIs .u8) 5) NoCells))
theorem readsEx : Reads Try.prog 31 (ArrIs (IntIs .u8) 5) := Reads.array Try.underlying31 (Reads.int Try.underlying5) (by kernel_rfl) (by kernel_rfl)
theorem readsTr : Reads Try.prog 33 TrK :=
  Reads.struct (N := 7) Try.underlying33 (by kernel_rfl) (ReadsF.cons (n := 1) (Reads.int Try.underlying30) rfl (by kernel_rfl) (ReadsF.cons (n := 1) (Reads.int Try.underlying5) rfl (by kernel_rfl) (ReadsF.cons (n := 5) readsEx rfl (by kernel_rfl) (ReadsF.nil 7))))
theorem readsTrs : Reads Try.prog 22 (SliceIs TrK 7 8) := Reads.slice Try.underlying22 readsTr (by kernel_rfl) (by decide) (by kernel_rfl)
theorem readsBytes : Reads Try.prog 23 (SliceIs (IntIs .u8) 1 1) := Reads.slice Try.underlying23 (Reads.int Try.underlying5) (by kernel_rfl) (by decide) (by kernel_rfl)
def trOf (x : Int × Int × List Int × Unit) : Tr := ⟨x.1, x.2.1, x.2.2.1.getD 0 0, x.2.2.1.getD 1 0, x.2.2.1.getD 2 0, x.2.2.1.getD 3 0, x.2.2.1.getD 4 0⟩
theorem arr_cells {w : World} {xs : List Int} {cs : List Value} (h : ArrIs (IntIs .u8) 5 w xs cs) : cs = ints .u8 xs ∧ xs.length = 5 ∧ ∀ x ∈ xs, 0 ≤ x ∧ x ≤ 255 := by
  obtain ⟨h1, h2, h3⟩ := h
  refine ⟨?_, h1, fun x hx => ?_⟩
  · apply List.ext_getElem?
    intro i
    rw [ints_get]
    cases hi : xs[i]? with
    | none => rw [List.getElem?_eq_none (by rw [h2]; have := List.getElem?_eq_none_iff.1 hi; omega)]; rfl
    | some x =>
      obtain ⟨v, hv, hk, _⟩ := h3 i x hi
      rw [hv]
      simp only [List.cons.injEq, and_true] at hk
      rw [hk]
      rfl
  · obtain ⟨i, hi⟩ := List.getElem?_of_mem hx
    obtain ⟨v, hv, _, hw⟩ := h3 i x hi
    exact bounds_u8 hw
theorem tr_cells {w : World} {x : Int × Int × List Int × Unit} {cs : List Value} (h : TrK w x cs) : cs = (trOf x).cells ∧ (trOf x).wf := by
  obtain ⟨c1, c2, rfl, ⟨rfl, w1⟩, c3, c4, rfl, ⟨rfl, w2⟩, c5, c6, rfl, h5, h6⟩ := h
  obtain rfl : c6 = [] := h6
  obtain ⟨e, hl, hb⟩ := arr_cells h5
  obtain ⟨c, r, l, u⟩ := x
  simp only at w1 w2 e hl hb ⊢
  rcases l with _ | ⟨a0, _ | ⟨a1, _ | ⟨a2, _ | ⟨a3, _ | ⟨a4, _ | ⟨a5, l⟩⟩⟩⟩⟩⟩
  all_goals first | (exfalso; simp at hl; done) | skip
  subst e
  refine ⟨rfl, ?_⟩
  have b1 := bounds_u16 w1
  have b2 := bounds_u8 w2
  have y0 := hb a0 (by simp)
  have y1 := hb a1 (by simp)
  have y2 := hb a2 (by simp)
  have y3 := hb a3 (by simp)
  have y4 := hb a4 (by simp)
  exact ⟨b1.1, b1.2, b2.1, b2.2, y0.1, y0.2, y1.1, y1.2, y2.1, y2.2, y3.1, y3.2, y4.1, y4.2⟩
theorem flat_at : ∀ (l : List Tr) (k : Nat) (v : Value), (flat l)[k]? = some v → ∃ t, l[k / 7]? = some t ∧ t.cells[k % 7]? = some v
  | [], k, v, h => by simp [flat] at h
  | t :: l, k, v, h => by
    rw [flat_cons] at h
    rcases Nat.lt_or_ge k 7 with hk | hk
    · rw [List.getElem?_append_left (by rw [Tr.cells_length]; exact hk)] at h
      exact ⟨t, by rw [Nat.div_eq_of_lt hk]; rfl, by rw [Nat.mod_eq_of_lt hk]; exact h⟩
    · rw [List.getElem?_append_right (by rw [Tr.cells_length]; exact hk), Tr.cells_length] at h
      obtain ⟨u, h1, h2⟩ := flat_at l (k - 7) v h
      refine ⟨u, ?_, ?_⟩
      · rw [show k / 7 = (k - 7) / 7 + 1 by omega]
        simpa using h1
      · rw [show k % 7 = (k - 7) % 7 by omega]
        exact h2
theorem trs_of {w : World} {A : Option Addr} {xs : List (Int × Int × List Int × Unit)} (h : RowOf TrK 7 w A xs) : Trs w A (xs.map trOf) ∧ ∀ t ∈ xs.map trOf, t.wf := by
  constructor
  · intro k v hv
    obtain ⟨t, h1, h2⟩ := flat_at _ k v hv
    rw [List.getElem?_map] at h1
    obtain ⟨x, hx, rfl⟩ := Option.map_eq_some_iff.1 h1
    obtain ⟨b, o, cs, rfl, hb, hk, hl, hc⟩ := h (k / 7) x hx
    obtain ⟨rfl, _⟩ := tr_cells hk
    refine ⟨b, o, rfl, hb, ?_⟩
    have := hc (k % 7) v h2
    rwa [show o + k / 7 * 7 + k % 7 = o + k by omega] at this
  · intro t ht
    obtain ⟨x, hx, rfl⟩ := List.mem_map.1 ht
    obtain ⟨i, hi⟩ := List.getElem?_of_mem hx
    obtain ⟨b, o, cs, rfl, hb, hk, hl, hc⟩ := h i x hi
    exact (tr_cells hk).2
end Go.Proofs.Ytagklcmkdjgblaa.Emcy
