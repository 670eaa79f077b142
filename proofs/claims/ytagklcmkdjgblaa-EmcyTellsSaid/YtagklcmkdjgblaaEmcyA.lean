/- Errors and frames as cells; where an error stands. -/
import Derived.Test.YtagklcmkdjgblaaOwn
import Derived.Lib.Walk
namespace Go.Proofs.Ytagklcmkdjgblaa.Emcy
open Go.RowKit Go.Proofs.Ytagklcmkdjgblaa.Own
structure Tr where
  code : Int
  reg : Int
  x0 : Int
  x1 : Int
  x2 : Int
  x3 : Int
  x4 : Int
deriving DecidableEq
def Tr.cells (t : Tr) : List Value := [.int .u16 t.code, .int .u8 t.reg, .int .u8 t.x0, .int .u8 t.x1, .int .u8 t.x2, .int .u8 t.x3, .int .u8 t.x4]
def Tr.v (t : Tr) : Value := .agg #[.int .u16 t.code, .int .u8 t.reg, .int .u8 t.x0, .int .u8 t.x1, .int .u8 t.x2, .int .u8 t.x3, .int .u8 t.x4]
def Tr.wf (t : Tr) : Prop := 0 ≤ t.code ∧ t.code ≤ 65535 ∧ 0 ≤ t.reg ∧ t.reg ≤ 255 ∧ 0 ≤ t.x0 ∧ t.x0 ≤ 255 ∧ 0 ≤ t.x1 ∧ t.x1 ≤ 255 ∧ 0 ≤ t.x2 ∧ t.x2 ≤ 255 ∧ 0 ≤ t.x3 ∧ t.x3 ≤ 255 ∧ 0 ≤ t.x4 ∧ t.x4 ≤ 255
theorem Tr.cells_length (t : Tr) : t.cells.length = 7 := rfl
def flat (l : List Tr) : List Value := l.flatMap Tr.cells
theorem flat_nil : flat [] = [] := rfl
theorem flat_cons (t : Tr) (l : List Tr) : flat (t :: l) = t.cells ++ flat l := rfl
theorem flat_append (a b : List Tr) : flat (a ++ b) = flat a ++ flat b := List.flatMap_append
theorem flat_one (t : Tr) : flat [t] = t.cells := by simp [flat]
theorem flat_length (l : List Tr) : (flat l).length = l.length * 7 := by
  induction l with
  | nil => rfl
  | cons t l ih => rw [flat_cons, List.length_append, ih, Tr.cells_length, List.length_cons]; omega
theorem cells_one (t : Tr) : ∀ u ∈ t.cells, u.oneCell' = true := by
  intro u hu
  simp only [Tr.cells, List.mem_cons, List.not_mem_nil, or_false] at hu
  rcases hu with rfl | rfl | rfl | rfl | rfl | rfl | rfl <;> rfl
theorem flat_one_cell (l : List Tr) : ∀ u ∈ flat l, u.oneCell' = true := by
  intro u hu
  obtain ⟨t, _, h⟩ := List.mem_flatMap.1 hu
  exact cells_one t u h
theorem flat_get : ∀ (l : List Tr) (i j : Nat) (t : Tr), l[i]? = some t → j < 7 → (flat l)[i * 7 + j]? = t.cells[j]?
  | [], i, j, t, h, _ => by simp at h
  | a :: l, 0, j, t, h, hj => by
    simp only [List.getElem?_cons_zero, Option.some.injEq] at h
    subst h
    rw [flat_cons, List.getElem?_append_left (by rw [Tr.cells_length]; omega), Nat.zero_mul, Nat.zero_add]
  | a :: l, i + 1, j, t, h, hj => by
    simp only [List.getElem?_cons_succ] at h
    rw [flat_cons, List.getElem?_append_right (by rw [Tr.cells_length]; omega), Tr.cells_length, show (i + 1) * 7 + j - 7 = i * 7 + j by omega]
    exact flat_get l i j t h hj
theorem flat_take (l : List Tr) (i : Nat) : (flat l).take (i * 7) = flat (l.take i) := by
  induction l generalizing i with
  | nil => simp [flat]
  | cons t l ih =>
    cases i with
    | zero => simp [flat]
    | succ i =>
      rw [List.take_succ_cons, flat_cons, flat_cons, List.take_append, Tr.cells_length, show (i + 1) * 7 - 7 = i * 7 by omega, ih, List.take_of_length_le (by rw [Tr.cells_length]; omega)]
theorem flat_drop (l : List Tr) (i : Nat) : (flat l).drop (i * 7) = flat (l.drop i) := by
  induction l generalizing i with
  | nil => simp [flat]
  | cons t l ih =>
    cases i with
    | zero => simp [flat]
    | succ i =>
      rw [List.drop_succ_cons, flat_cons, List.drop_append, Tr.cells_length, show (i + 1) * 7 - 7 = i * 7 by omega, ih, List.drop_of_length_le (by rw [Tr.cells_length]; omega), List.nil_append]

/-- Errors that are read at an address. -/
def Trs (w : World) (A : Option Addr) (l : List Tr) : Prop := Row w A (flat l)
theorem Trs.pick {w : World} {A : Option Addr} {l : List Tr} (h : Trs w A l) {i : Nat} {t : Tr} (hi : l[i]? = some t) :
    ∃ b o, A = some ⟨b, o, none⟩ ∧ b < w.heap.size ∧ w.cell? ⟨b, o + i * 7, none⟩ = some (.int .u16 t.code) ∧ w.cell? ⟨b, o + i * 7 + 1, none⟩ = some (.int .u8 t.reg) ∧ w.cell? ⟨b, o + i * 7 + 2, none⟩ = some (.int .u8 t.x0) ∧
      w.cell? ⟨b, o + i * 7 + 3, none⟩ = some (.int .u8 t.x1) ∧ w.cell? ⟨b, o + i * 7 + 4, none⟩ = some (.int .u8 t.x2) ∧ w.cell? ⟨b, o + i * 7 + 5, none⟩ = some (.int .u8 t.x3) ∧ w.cell? ⟨b, o + i * 7 + 6, none⟩ = some (.int .u8 t.x4) := by
  have g : ∀ j, j < 7 → (flat l)[i * 7 + j]? = t.cells[j]? := fun j hj => flat_get l i j t hi hj
  obtain ⟨b, o, rfl, hb, _⟩ := h (i * 7 + 0) _ (g 0 (by decide))
  have k : ∀ j v, t.cells[j]? = some v → w.cell? ⟨b, o + i * 7 + j, none⟩ = some v := fun j v hv => by
    have hj : j < 7 := (List.getElem?_eq_some_iff.1 hv).1
    obtain ⟨b', o', e, _, hc⟩ := h (i * 7 + j) v ((g j hj).trans hv)
    cases e
    rw [Nat.add_assoc]
    exact hc
  exact ⟨b, o, rfl, hb, k 0 _ rfl, k 1 _ rfl, k 2 _ rfl, k 3 _ rfl, k 4 _ rfl, k 5 _ rfl, k 6 _ rfl⟩

/-- The place of an error from k on; below 0: it is not there. -/
def findF (c : Int) : List Tr → Nat → Int
  | [], _ => -1
  | t :: l, k => if t.code = c then k else findF c l (k + 1)
theorem findF_step {c : Int} {l : List Tr} {j : Nat} {t : Tr} (h : l[j]? = some t) : findF c (l.drop j) j = if t.code = c then (j : Int) else findF c (l.drop (j + 1)) (j + 1) := by
  have hj := (List.getElem?_eq_some_iff.1 h).1
  have e : l[j] = t := (List.getElem?_eq_some_iff.1 h).2
  rw [List.drop_eq_getElem_cons hj, e]
  rfl

set_option maxHeartbeats 1000000 in
theorem pred_any (t : Tr) (c : Int) (b : Nat) (w : World) (hc : w.cell? ⟨b, 0, none⟩ = some (.int .u16 c)) (r : Bool) (hr : r = decide (t.code = c)) :
    Calls Try.prog 34 #[t.v, .pointer (some ⟨b, 0, none⟩)] w fun e w' => e = .returned (.bool r) ∧ Keep Zero w w' := by
  have hl : b < w.heap.size := World.block_lt_of_cell? w _ hc
  unfold Tr.v
  by_cases h : t.code = c
  · have hb : (t.code == c) = true := by simp [h]
    have e : r = true := by rw [hr]; exact decide_eq_true h
    subst e
    clear h hr
    go_enter Try.func34, Try.ntmps34
    go_wp2
    go_ret
    exact ⟨rfl, (Keep.refl _ _).alloc _⟩
  · have hb : (t.code == c) = false := by simp [h]
    have e : r = false := by rw [hr]; exact decide_eq_false h
    subst e
    clear h hr
    go_enter Try.func34, Try.ntmps34
    go_wp2
    go_ret
    exact ⟨rfl, (Keep.refl _ _).alloc _⟩

set_option maxHeartbeats 2000000 in
theorem IndexFunc_any (A : Option Addr) (cap : Nat) (l : List Tr) (c : Int) (b : Nat) (w : World) (hr : Trs w A l) (hl : l.length ≤ 1000000000000000) (hc : w.cell? ⟨b, 0, none⟩ = some (.int .u16 c)) :
    Calls Try.prog 33 #[.slice A l.length cap, .func (.func 34) #[] #[.pointer (some ⟨b, 0, none⟩)]] w fun e w' => e = .returned (.int .i64 (findF c l 0)) ∧ Keep Zero w w' := by
  have HR := Lib.hid hr
  have hbl : b < w.heap.size := World.block_lt_of_cell? w _ hc
  obtain ⟨n, hn⟩ : ∃ n, n = l.length := ⟨_, rfl⟩
  have HN := Lib.hid hn
  rw [← hn] at hl ⊢
  clear hn hr
  go_enter Try.func33, Try.ntmps33
  go_wp2
  go_loopg [5, 8] n (fun k _ s8 wr => ∃ j : Nat, j ≤ n ∧ k = n - j ∧ s8 = .int .i64 j ∧ Keep Zero w wr ∧ Hid (findF c (l.drop j) j = findF c l 0))
  case atStart => exact ⟨0, Nat.zero_le _, rfl, rfl, Keep.refl _ _, rfl⟩
  case round =>
    obtain ⟨j, hj, hk, rfl, hkp, HF⟩ := hrel
    have HK := Lib.hid hkp
    have HM := Lib.hid hk
    have hc2 := (HK.out.cell (p := ⟨b, 0, none⟩) hbl id).trans hc
    clear hkp hk
    by_cases hlt : j < n
    · obtain ⟨t, ht⟩ : ∃ t, l[j]? = some t := ⟨l[j]'(by rw [← HN.out]; exact hlt), List.getElem?_eq_getElem _⟩
      obtain ⟨q, o, rfl, hq, d0, d1, d2, d3, d4, d5, d6⟩ := Trs.pick (HR.out.keep HK.out (fun _ _ _ => id)) ht
      have HT := Lib.hid ht
      have h1 : (j : Int) < (n : Int) := by omega
      have HS := Lib.hid (findF_step (c := c) ht)
      clear ht
      by_cases he : t.code = c
      · have HE : Hid (decide (t.code = c) = true) := Lib.hid (decide_eq_true he)
        have HE2 : Hid (findF c l 0 = j) := Lib.hid (by rw [← HF.out, HS.out, if_pos he])
        clear he
        go_wp2_with fail
        refine (pred_any t c b _ hc2 true HE.out.symm).mono ?_
        rintro e w' ⟨rfl, hk⟩
        have HK2 := Lib.hid hk
        clear hk
        go_wp2_with fail
        go_ret
        rw [HE2.out]
        exact ⟨rfl, HK.out.trans HK2.out (fun i hi => hi.elim)⟩
      · have HE : Hid (decide (t.code = c) = false) := Lib.hid (decide_eq_false he)
        have HE2 : Hid (findF c (l.drop (j + 1)) (j + 1) = findF c l 0) := Lib.hid (by rw [← HF.out, HS.out, if_neg he])
        clear he
        go_wp2_with fail
        refine (pred_any t c b _ hc2 false HE.out.symm).mono ?_
        rintro e w' ⟨rfl, hk⟩
        have HK2 := Lib.hid hk
        clear hk
        go_wp2_with fail
        go_roundg (n - (j + 1))
        case measure => rw [HM.out]; omega
        case rel => exact ⟨j + 1, by omega, rfl, by go_num, HK.out.trans HK2.out (fun i hi => hi.elim), HE2⟩
    · have h1 : ¬ (j : Int) < (n : Int) := by omega
      have HE : Hid (findF c l 0 = -1) := Lib.hid (by rw [← HF.out, List.drop_of_length_le (by rw [← HN.out]; omega)]; rfl)
      go_wp2
      go_ret
      rw [HE.out]
      exact ⟨rfl, HK.out⟩
end Go.Proofs.Ytagklcmkdjgblaa.Emcy
