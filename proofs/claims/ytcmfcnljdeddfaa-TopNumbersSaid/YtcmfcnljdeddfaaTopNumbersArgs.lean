/- How TopNumbers's arguments read. -/
import Derived.Test.YtcmfcnljdeddfaaTopNumbers
import Derived.Test.YtcmfcnljdeddfaaArgInts
namespace Go.Proofs.Ytcmfcnljdeddfaa.Num
open Go.RowKit Go.Proofs.Ytcmfcnljdeddfaa.Own
theorem readsAddr : Reads Try.prog 57 (ArrIs (IntIs .u32) 4) := Reads.array (e := 56) Try.underlying57 (Reads.int Try.underlying56) (by kernel_rfl) (by kernel_rfl)
def NodeK : World → List Int × Int × Unit → List Value → Prop := Both (ArrIs (IntIs .u32) 4) (Both (IntIs .i64) NoCells)
theorem readsNode : Reads Try.prog 59 NodeK :=
  Reads.struct (N := 5) Try.underlying59 (by kernel_rfl) (ReadsF.cons (n := 4) readsAddr rfl (by kernel_rfl) (ReadsF.cons (n := 1) (Reads.int Try.underlying3) rfl (by kernel_rfl) (ReadsF.nil 5)))
theorem readsNodes : Reads Try.prog 52 (SliceIs NodeK 5 24) := Reads.slice Try.underlying52 readsNode (by kernel_rfl) (by decide) (by kernel_rfl)
theorem readsInts : Reads Try.prog 42 (SliceIs (IntIs .i64) 1 8) := Reads.slice Try.underlying42 (Reads.int Try.underlying3) (by kernel_rfl) (by decide) (by kernel_rfl)
theorem readsOrder : Reads Try.prog 54 (Both (IntIs .i64) (Both (IntIs .i64) NoCells)) :=
  Reads.struct (N := 2) Try.underlying54 (by kernel_rfl) (ReadsF.cons (n := 1) (Reads.int Try.underlying3) rfl (by kernel_rfl) (ReadsF.cons (n := 1) (Reads.int Try.underlying3) rfl (by kernel_rfl) (ReadsF.nil 2)))
def nodeA (xs : List (List Int × Int × Unit)) : Nat → Nat → Int := fun i k => ((xs.getD i ([], 0, ())).1).getD k 0
def nodeZ (xs : List (List Int × Int × Unit)) : Nat → Int := fun i => (xs.getD i ([], 0, ())).2.1
theorem wf_u32 {x : Int} (h : (Lit.int .u32 x).wf = true) : 0 ≤ x ∧ x < 4294967296 := by
  have := bounds_u32 h
  omega
theorem node_wf {w : World} {A : Option Addr} {xs : List (List Int × Int × Unit)} (h : RowOf NodeK 5 w A xs) : ∀ i k, 0 ≤ nodeA xs i k ∧ nodeA xs i k < 4294967296 := by
  intro i k
  unfold nodeA
  rw [List.getD_eq_getElem?_getD, List.getD_eq_getElem?_getD]
  rcases hx : xs[i]? with _ | x
  · simp
  · obtain ⟨b, o, cs, rfl, hb, ⟨c1, c2, rfl, ⟨hx1, hc1, hel⟩, _⟩, _, _⟩ := h i x hx
    simp only [Option.getD_some]
    rcases hk : x.1[k]? with _ | y
    · simp
    · obtain ⟨v, _, e, hw⟩ := hel k y hk
      exact wf_u32 hw
theorem nodes_row {w : World} {A : Option Addr} {xs : List (List Int × Int × Unit)} (h : RowOf NodeK 5 w A xs) : Row w A (flatN (nodeA xs) (nodeZ xs) xs.length) := by
  intro t v hv
  have ht : t < xs.length * 5 := by
    have := (List.getElem?_eq_some_iff.1 hv).1
    rw [flatN_len] at this
    exact this
  obtain ⟨x, hx⟩ : ∃ x, xs[t / 5]? = some x := ⟨xs[t / 5]'(by omega), List.getElem?_eq_getElem _⟩
  obtain ⟨b, o, cs, rfl, hb, ⟨c1, c2, rfl, ⟨hx1, hc1, hel⟩, ⟨c3, c4, rfl, ⟨rfl, _⟩, h4⟩⟩, hl, hc⟩ := h _ x hx
  refine ⟨b, o, rfl, hb, ?_⟩
  have hA : ∀ k, nodeA xs (t / 5) k = x.1.getD k 0 := fun k => by
    unfold nodeA
    rw [List.getD_eq_getElem?_getD (l := xs), hx]
    rfl
  have hZ : nodeZ xs (t / 5) = x.2.1 := by
    unfold nodeZ
    rw [List.getD_eq_getElem?_getD, hx]
    rfl
  by_cases h5 : t % 5 = 4
  · have e : v = .int .i64 (nodeZ xs (t / 5)) := by
      have := flatN_id (nodeA xs) (nodeZ xs) (L := xs.length) (i := t / 5) (by omega)
      rw [show t / 5 * 5 + 4 = t by omega, hv] at this
      exact Option.some.inj this
    have := hc 4 (.int .i64 x.2.1) (by
      rw [List.getElem?_append_right (by omega), hc1]
      rfl)
    rw [e, hZ, show o + t = o + t / 5 * 5 + 4 by omega]
    exact this
  · have e : v = .int .u32 (nodeA xs (t / 5) (t % 5)) := by
      have := flatN_addr (nodeA xs) (nodeZ xs) (L := xs.length) (i := t / 5) (k := t % 5) (by omega) (by omega)
      rw [show t / 5 * 5 + t % 5 = t by omega, hv] at this
      exact Option.some.inj this
    have hg : x.1[t % 5]? = some (x.1[t % 5]'(by omega)) := List.getElem?_eq_getElem (by omega)
    obtain ⟨u, hu, e2, _⟩ := hel (t % 5) _ hg
    simp only [List.cons.injEq, and_true] at e2
    have := hc (t % 5) u (by
      rw [List.getElem?_append_left (by omega)]
      exact hu)
    rw [e, hA, List.getD_eq_getElem?_getD, hg, show o + t = o + t / 5 * 5 + t % 5 by omega]
    rw [e2] at this
    exact this
theorem numbers_walk' (B C : Option Addr) (cb cc : Nat) (xs : List (List Int × Int × Unit)) (ids : List Int) (cs : Array Value) (x : Int × Int × Unit) (w : World) (h : RowOf NodeK 5 w B xs) (hn : B = none → cb = 0) (hb : xs.length * 24 ≤ reachBytes)
    (h2 : RowOf (IntIs .i64) 1 w C ids) (hn2 : C = none → cc = 0) (hb2 : ids.length * 8 ≤ reachBytes) (h3 : Both (IntIs .i64) (Both (IntIs .i64) NoCells) w x cs.toList) :
    Calls Try.prog 4 #[.slice B xs.length cb, .slice C ids.length cc, .agg cs] w fun e w' => e = .returned (.bool true) ∧ Keep Own.Zero w w' := by
  obtain ⟨l⟩ := cs
  obtain ⟨c1, c2, e, ⟨rfl, _⟩, c3, c4, rfl, ⟨rfl, _⟩, h4⟩ := h3
  obtain rfl : c4 = [] := h4
  obtain rfl : l = _ := e
  exact numbers_walk w B C cb cc xs.length (nodeA xs) (nodeZ xs) (nodes_row h) hn (node_wf h) (by unfold reachBytes at hb; omega) ids (row_of h2) hn2 (by unfold reachBytes at hb2; omega) _ _
end Go.Proofs.Ytcmfcnljdeddfaa.Num
