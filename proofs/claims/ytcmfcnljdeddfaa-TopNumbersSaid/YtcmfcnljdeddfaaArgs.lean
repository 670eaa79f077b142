/- How an argument reads: from the form's own reading to plain data and cells, type by type. -/
import Derived.Test.YtcmfcnljdeddfaaOwn
import Derived.Deep.Slices
import Derived.OpenShut
import Derived.SizedLaws
import Derived.ChangeSame
namespace Go.Proofs.Ytcmfcnljdeddfaa.Own
open Go.RowKit Go.ChangeShapes Go.WideShapes Go.Deep

/-- What reads at type t stands in cells as K says. -/
def Reads (P : Program) (t : TypeId) {α : Type} (K : World → α → List Value → Prop) : Prop :=
  ∀ (H : Type) (enc : TypeId × Value → H) (w : World) (base : Nat) (spare : Nat → Bool) (held : Bool) (fuel : Nat) (cs : List Value) (d : DataW H) (pl : List MemPlace),
    DataW.trod enc P w base spare held fuel t cs = some (d, pl) → (∀ n ∈ d.weights P t, n ≤ reachBytes) → ∃ x, K w x cs

def IntIs (k : IntKind) (_ : World) (x : Int) (cs : List Value) : Prop := cs = [.int k x] ∧ (Lit.int k x).wf = true
theorem Reads.int {P : Program} {t : TypeId} {k : IntKind} (ht : P.underlying t = some (.int k)) : Reads P t (IntIs k) := by
  intro H enc w base spare held fuel cs d pl h _
  obtain ⟨n, hc, _, hw⟩ := DataW.trod_int ht h
  exact ⟨n, hc, hw⟩
def BoolIs (_ : World) (x : Bool) (cs : List Value) : Prop := cs = [.bool x]
theorem Reads.bool {P : Program} {t : TypeId} (ht : P.underlying t = some .bool) : Reads P t BoolIs := by
  intro H enc w base spare held fuel cs d pl h _
  obtain ⟨n, hc, _⟩ := DataW.trod_bool ht h
  exact ⟨n, hc⟩

theorem weights_all {H : Type} {P : Program} {e : TypeId} : ∀ {l : List (DataW H)} {i : Nat} {d : DataW H}, l[i]? = some d → ∀ n ∈ d.weights P e, n ∈ DataW.weightsAll P e l
  | [], i, d, h, _, _ => by simp at h
  | d0 :: l, 0, d, h, n, hn => by
    simp only [List.getElem?_cons_zero, Option.some.injEq] at h
    subst h
    simp only [DataW.weightsAll, List.mem_append]
    exact .inl hn
  | d0 :: l, i + 1, d, h, n, hn => by
    simp only [List.getElem?_cons_succ] at h
    simp only [DataW.weightsAll, List.mem_append]
    exact .inr (weights_all h n hn)

theorem list_of {α : Type} {p : Nat → α → Prop} : ∀ (n : Nat), (∀ i, i < n → ∃ x, p i x) → ∃ l : List α, l.length = n ∧ ∀ i x, l[i]? = some x → p i x
  | 0, _ => ⟨[], rfl, fun i x h => by simp at h⟩
  | n + 1, h => by
    obtain ⟨l, hl, hp⟩ := list_of n (fun i hi => h i (Nat.lt_succ_of_lt hi))
    obtain ⟨x, hx⟩ := h n (Nat.lt_succ_self n)
    refine ⟨l ++ [x], by simp [hl], fun i y hy => ?_⟩
    rcases Nat.lt_trichotomy i n with hi | rfl | hi
    · rw [List.getElem?_append_left (by omega)] at hy
      exact hp i y hy
    · rw [List.getElem?_append_right (by omega), hl, Nat.sub_self] at hy
      simp at hy
      exact hy ▸ hx
    · rw [List.getElem?_eq_none (by simp; omega)] at hy
      cases hy

/-- Element i of a row at A, n cells each. -/
def ElemAt {α : Type} (K : World → α → List Value → Prop) (n : Nat) (w : World) (A : Option Addr) (i : Nat) (x : α) : Prop :=
  ∃ b o cs, A = some ⟨b, o, none⟩ ∧ b < w.heap.size ∧ K w x cs ∧ cs.length = n ∧ ∀ j v, cs[j]? = some v → w.cell? ⟨b, o + i * n + j, none⟩ = some v
def RowOf {α : Type} (K : World → α → List Value → Prop) (n : Nat) (w : World) (A : Option Addr) (xs : List α) : Prop := ∀ i x, xs[i]? = some x → ElemAt K n w A i x
def SliceIs {α : Type} (K : World → α → List Value → Prop) (n bytes : Nat) (w : World) (xs : List α) (cs : List Value) : Prop :=
  ∃ A c, cs = [.slice A xs.length c] ∧ xs.length ≤ c ∧ c ≤ maxLen ∧ (A = none → c = 0) ∧ xs.length * bytes ≤ reachBytes ∧ RowOf K n w A xs

theorem add_plain (b o j : Nat) : (⟨b, o, none⟩ : Addr).add j = ⟨b, o + j, none⟩ := by unfold Addr.add; split <;> simp_all
theorem spot_none {w : World} {a : Addr} {v : Value} (h : w.cell? a = some v) : a = ⟨a.block, a.off, none⟩ ∧ a.block < w.heap.size := by
  refine ⟨?_, World.block_lt_of_cell? w a h⟩
  unfold World.cell? at h
  split at h
  · split at h
    · cases h
    · rename_i hs
      obtain ⟨b, o, s⟩ := a
      cases s with
      | none => rfl
      | some s => simp at hs
  · cases h

theorem Reads.slice {P : Program} {t e : TypeId} {α : Type} {K : World → α → List Value → Prop} {n bytes : Nat} (ht : P.underlying t = some (.slice e)) (he : Reads P e K) (hc : P.cellsOf e = n) (hn : 0 < n) (hb : P.bytesOf e = bytes) :
    Reads P t (SliceIs K n bytes) := by
  intro H enc w base spare held fuel cs d pl h hw
  rcases open_slice ht h with ⟨rfl, hx⟩ | ⟨a, len, cap, m, f, D, Pl, rfl, _, hlc, hcm, hm, hx, hel⟩
  · exact ⟨[], none, 0, rfl, Nat.le_refl _, Nat.zero_le _, fun _ => rfl, by simp, fun i x hi => by simp at hi⟩
  · simp only [Prod.mk.injEq] at hx
    obtain ⟨rfl, rfl⟩ := hx
    have hlm : len ≤ m := by rw [hm]; split <;> omega
    rw [hc] at hel
    have hwl : ∀ i, i < len → ∀ k ∈ (D i).weights P e, k ≤ reachBytes := fun i hi k hk => by
      refine hw k ?_
      simp only [DataW.weights, ht, List.mem_cons, List.mem_append]
      exact .inr (.inl (weights_all (i := i) (by rw [List.getElem?_map, List.getElem?_range hi]; rfl) k hk))
    have hsz : len * bytes ≤ reachBytes := by
      have := hw ((len + (m - len)) * P.bytesOf e) (by simp [DataW.weights, ht])
      rw [hb] at this
      exact Nat.le_trans (Nat.mul_le_mul_right _ (by omega)) this
    obtain ⟨xs, hxl, hxs⟩ := list_of (p := fun i x => ElemAt K n w (some a) i x) len (fun i hi => by
      obtain ⟨c0, hc0, _⟩ := hel 0 (by omega)
      obtain ⟨_, hl0, hg0⟩ := World.cells?_some hc0
      have h0 := hg0 0 hn
      rw [List.getElem?_eq_getElem (by omega)] at h0
      have e0 : (a.add (0 * n)).add 0 = a := by simp [Addr.add]
      rw [e0] at h0
      obtain ⟨ea, hlt⟩ := spot_none h0
      obtain ⟨ci, hci, hti⟩ := hel i (by omega)
      obtain ⟨_, hli, hgi⟩ := World.cells?_some hci
      obtain ⟨x, hx⟩ := he H enc w base spare held f ci (D i) (Pl i) hti (hwl i hi)
      refine ⟨x, a.block, a.off, ci, by rw [← ea], hlt, hx, hli, fun j v hj => ?_⟩
      have hjl := (List.getElem?_eq_some_iff.1 hj).1
      have hg := hgi j (by omega)
      rw [ea, add_plain, add_plain] at hg
      rw [hg, hj])
    subst hxl
    exact ⟨xs, some a, cap, rfl, hlc, hcm, fun h => (by cases h), hsz, hxs⟩

/-- The fields from one on, in a row of cells. -/
def ReadsF (P : Program) (fs : List Field) (off N : Nat) {α : Type} (K : World → α → List Value → Prop) : Prop :=
  ∀ (H : Type) (enc : TypeId × Value → H) (w : World) (base : Nat) (spare : Nat → Bool) (held : Bool) (fuel : Nat) (cs : List Value) (xs : List (DataW H × List MemPlace)),
    cs.length = N → xs.length = fs.length → (∀ (i : Nat) (f : Field), fs[i]? = some f → DataW.trod enc P w base spare held fuel f.type ((cs.drop f.offset).take (P.cellsOf f.type)) = xs[i]?) →
    (∀ n ∈ DataW.weightsEach P (fs.map (·.type)) (xs.map (·.1)), n ≤ reachBytes) → ∃ x, K w x (cs.drop off)
def NoCells (_ : World) (_ : Unit) (cs : List Value) : Prop := cs = []
theorem ReadsF.nil {P : Program} (N : Nat) : ReadsF P [] N N NoCells := by
  intro H enc w base spare held fuel cs xs hl _ _ _
  exact ⟨(), List.drop_eq_nil_of_le (by omega)⟩
def Both {α β : Type} (K : World → α → List Value → Prop) (L : World → β → List Value → Prop) (w : World) (x : α × β) (cs : List Value) : Prop := ∃ c1 c2, cs = c1 ++ c2 ∧ K w x.1 c1 ∧ L w x.2 c2
theorem ReadsF.cons {P : Program} {f : Field} {fs : List Field} {off N n : Nat} {α β : Type} {K : World → α → List Value → Prop} {L : World → β → List Value → Prop}
    (hf : Reads P f.type K) (ho : f.offset = off) (hc : P.cellsOf f.type = n) (hfs : ReadsF P fs (off + n) N L) : ReadsF P (f :: fs) off N (Both K L) := by
  intro H enc w base spare held fuel cs xs hl hx hg hw
  rcases xs with _ | ⟨x0, xs⟩
  · simp at hx
  obtain ⟨d0, p0⟩ := x0
  have h0 := hg 0 f rfl
  rw [ho, hc] at h0
  obtain ⟨x, hK⟩ := hf H enc w base spare held fuel _ d0 p0 h0 (fun k hk => hw k (by simp only [List.map_cons, DataW.weightsEach, List.mem_append]; exact .inl hk))
  obtain ⟨y, hL⟩ := hfs H enc w base spare held fuel cs xs hl (by simpa using hx) (fun i f' hi => hg (i + 1) f' hi) (fun k hk => hw k (by simp only [List.map_cons, DataW.weightsEach, List.mem_append]; exact .inr hk))
  refine ⟨(x, y), _, _, ?_, hK, hL⟩
  rw [← List.drop_drop, List.take_append_drop]
theorem Reads.struct {P : Program} {t : TypeId} {fs : Array Field} {N : Nat} {α : Type} {K : World → α → List Value → Prop} (ht : P.underlying t = some (.struct fs)) (hN : P.cellsOf t = N) (hfs : ReadsF P fs.toList 0 N K) : Reads P t K := by
  intro H enc w base spare held fuel cs d pl h hw
  obtain ⟨xs, n, _, hx, hl, hxl, hg⟩ := DataW.trod_struct ht h
  simp only [Prod.mk.injEq] at hx
  obtain ⟨rfl, rfl⟩ := hx
  obtain ⟨x, hK⟩ := hfs H enc w base spare held n cs xs (by omega) (by simpa using hxl) (fun i f hi => hg i f (by simpa using hi)) (fun k hk => hw k (by simp only [DataW.weights, ht]; exact hk))
  exact ⟨x, by simpa using hK⟩

/-- An array of elements of one cell each. -/
def ArrIs {α : Type} (K : World → α → List Value → Prop) (n : Nat) (w : World) (xs : List α) (cs : List Value) : Prop := xs.length = n ∧ cs.length = n ∧ ∀ (i : Nat) (x : α), xs[i]? = some x → ∃ v : Value, cs[i]? = some v ∧ K w x [v]
theorem Reads.array {P : Program} {t e : TypeId} {n : Nat} {α : Type} {K : World → α → List Value → Prop} (ht : P.underlying t = some (.array n e)) (he : Reads P e K) (hc : P.cellsOf e = 1) (hN : P.cellsOf t = n) : Reads P t (ArrIs K n) := by
  intro H enc w base spare held fuel cs d pl h hw
  obtain ⟨xs, m, _, hx, hl, hxl, hg⟩ := DataW.trod_array ht h
  simp only [Prod.mk.injEq] at hx
  obtain ⟨rfl, rfl⟩ := hx
  rw [hc] at hg
  obtain ⟨ys, hyl, hys⟩ := list_of (p := fun i x => ∃ v, cs[i]? = some v ∧ K w x [v]) n (fun i hi => by
    have h1 := hg i hi
    have hv : cs[i]? = some (cs[i]'(by omega)) := List.getElem?_eq_getElem (by omega)
    have e1 : (cs.drop (i * 1)).take 1 = [cs[i]'(by omega)] := by
      rw [Nat.mul_one, List.drop_eq_getElem_cons (by omega)]
      rfl
    have hxi : xs[i]? = some (xs[i]'(by omega)) := List.getElem?_eq_getElem (by omega)
    rw [e1, hxi] at h1
    obtain ⟨x, hK⟩ := he H enc w base spare held m _ (xs[i]'(by omega)).1 (xs[i]'(by omega)).2 h1 (fun k hk => hw k (by
      simp only [DataW.weights, ht]
      exact weights_all (i := i) (by rw [List.getElem?_map, hxi]; rfl) k hk))
    exact ⟨x, _, hv, hK⟩)
  exact ⟨ys, hyl, by omega, hys⟩
end Go.Proofs.Ytcmfcnljdeddfaa.Own
