/- Plain law: what a scan comes to. -/
import Derived.Test.YtcmfcnljdeddfaaNumF
namespace Go.Proofs.Ytcmfcnljdeddfaa.Num
open Go.RowKit Go.Proofs.Ytcmfcnljdeddfaa.Own Go.Proofs.Ytcmfcnljdeddfaa.Crc
def ansF (s : Sc) (y : Bool) : Sc :=
  if s.asks = 1 then { s with asks := if s.bit = 0 then 2 else 1, bit := s.bit - 1, asked := false, took := s.took + 1, K := if y then s.K else fun k => if k = s.part.toNat then s.K k + 2 ^ s.bit.toNat else s.K k }
  else if y = false then { s with asks := 3, asked := false, took := s.took + 1 }
  else if s.asks = 0 then { s with asks := 1, asked := false, took := s.took + 1 }
  else if s.part = 3 then { s with asks := 3, part := 4, bit := 31, found := true, asked := false, took := s.took + 1 }
  else { s with asks := 1, part := s.part + 1, bit := 31, asked := false, took := s.took + 1 }
/-- How often it asks yet, at most. -/
def left (s : Sc) : Nat := if s.asks = 0 then 1000 else if s.asks = 1 then (3 - s.part.toNat) * 33 + s.bit.toNat + 2 else if s.asks = 2 then (3 - s.part.toNat) * 33 + 1 else 0
/-- The slaves are who they were. -/
def Same (n : Nat) (σ0 σ : Nat → Sl) : Prop := ∀ i, i < n → (σ i).A = (σ0 i).A ∧ (σ i).pid = (σ0 i).pid ∧ (σ i).uid = (σ0 i).uid
def Waits (n : Nat) (σ : Nat → Sl) : Prop := ∀ i, i < n → (σ i).mode = 0
/-- Those that look for a part had the ones ahead. -/
def Looks (n : Nat) (σ : Nat → Sl) (K : Nat → Int) (p : Nat) : Prop := ∀ i, i < n → (σ i).free = true → 0 ≤ (σ i).looks ∧ (σ i).looks ≤ p ∧ ((σ i).looks = p → ∀ k, k < p → (σ i).A k = K k)
def Zeros (K : Nat → Int) (p : Nat) : Prop := ∀ k, p < k → K k = 0
structure InB (n : Nat) (σ : Nat → Sl) (s : Sc) (p b : Nat) : Prop where
  asks : s.asks = 1
  part : s.part = p
  bit : s.bit = b
  p3 : p ≤ 3
  b31 : b ≤ 31
  found : s.found = false
  zeros : Zeros s.K p
  low : s.K p % 2 ^ (b + 1) = 0
  looks : Looks n σ s.K p
  waits : Waits n σ
  live : ∃ i, i < n ∧ (σ i).free = true ∧ (σ i).looks = p ∧ (σ i).A p / 2 ^ (b + 1) = s.K p / 2 ^ (b + 1)
structure InH (n : Nat) (σ : Nat → Sl) (s : Sc) (p : Nat) : Prop where
  asks : s.asks = 2
  part : s.part = p
  p3 : p ≤ 3
  found : s.found = false
  zeros : Zeros s.K p
  looks : Looks n σ s.K p
  waits : Waits n σ
  live : ∃ i, i < n ∧ (σ i).free = true ∧ (σ i).looks = p ∧ (σ i).A p = s.K p
structure InW (n : Nat) (σ : Nat → Sl) (s : Sc) : Prop where
  asks : s.asks = 0
  part : s.part = 0
  bit : s.bit = 31
  found : s.found = false
  zeros : ∀ k, s.K k = 0
  waits : Waits n σ
structure InN (n : Nat) (σ : Nat → Sl) (s : Sc) : Prop where
  asks : s.asks = 3
  found : s.found = false
  waits : Waits n σ
  none : ∀ i, i < n → (σ i).free = false
structure InF (n : Nat) (σ : Nat → Sl) (s : Sc) : Prop where
  asks : s.asks = 3
  found : s.found = true
  all : ∀ i, i < n → (σ i).mode = 0 ∨ ((σ i).mode = 1 ∧ (σ i).free = true ∧ ∀ k, k < 4 → (σ i).A k = s.K k)
  one : ∃ i, i < n ∧ (σ i).mode = 1
def Inv (n : Nat) (σ : Nat → Sl) (s : Sc) : Prop := InW n σ s ∨ (∃ p b, InB n σ s p b) ∨ (∃ p, InH n σ s p) ∨ InN n σ s ∨ InF n σ s
theorem Inv.goes {n : Nat} {σ : Nat → Sl} {s : Sc} (h : Inv n σ s) (ha : s.asks ≠ 3) : InW n σ s ∨ (∃ p b, InB n σ s p b) ∨ (∃ p, InH n σ s p) := by
  rcases h with h | h | h | h | h
  · exact .inl h
  · exact .inr (.inl h)
  · exact .inr (.inr h)
  · exact absurd h.asks ha
  · exact absurd h.asks ha
def after (f : Fr) (σ : Nat → Sl) : Nat → Sl := fun i => (takeF f (σ i)).2
theorem takeF_81 {f : Fr} {s : Sl} (hf : f.c = 81) : takeF f s = if s.free then scanF f s else (false, s) := by
  unfold takeF
  rw [if_neg (by omega), if_neg (by omega)]
theorem scanF_same (f : Fr) (s : Sl) : (scanF f s).2.A = s.A ∧ (scanF f s).2.pid = s.pid ∧ (scanF f s).2.uid = s.uid := by
  unfold scanF nextF
  repeat' split
  all_goals exact ⟨rfl, rfl, rfl⟩
theorem Same.step {n : Nat} {σ0 σ : Nat → Sl} {f : Fr} (h : Same n σ0 σ) (hf : f.c = 81) : Same n σ0 (after f σ) := by
  intro i hi
  have h1 := h i hi
  unfold after
  rw [takeF_81 hf]
  split
  · have h2 := scanF_same f (σ i)
    exact ⟨h2.1.trans h1.1, h2.2.1.trans h1.2.1, h2.2.2.trans h1.2.2⟩
  · exact h1
theorem asksF_c (s : Sc) : s.asksF.c = 81 := by
  unfold Sc.asksF
  split
  · rfl
  · split <;> rfl
theorem asksF_num (s : Sc) (h0 : 0 ≤ s.K s.part.toNat) (h1 : s.K s.part.toNat < 4294967296) : s.asksF.num = s.K s.part.toNat := by
  have h := ordF_num (c := 81) h0 h1
  unfold Sc.asksF
  split
  · exact h
  · split <;> exact h
/-- Nobody is there. -/
theorem step_N {n : Nat} {σ : Nat → Sl} {s : Sc} (h : InW n σ s) (hn : ∀ i, i < n → (σ i).free = false) : anyF s.asksF σ n = false ∧ InN n (after s.asksF σ) (ansF s false) := by
  have ht : ∀ i, i < n → takeF s.asksF (σ i) = (false, σ i) := fun i hi => by
    rw [takeF_81 (asksF_c s), hn i hi]
    rfl
  constructor
  · rw [Bool.eq_false_iff]
    intro k
    obtain ⟨i, hi, hk⟩ := (anyF_iff _ _ _).1 k
    rw [ht i hi] at hk
    cases hk
  · have e : ansF s false = { s with asks := 3, asked := false, took := s.took + 1 } := by
      unfold ansF
      rw [if_neg (by rw [h.asks]; decide), if_pos rfl]
    rw [e]
    refine ⟨rfl, h.found, fun i hi => ?_, fun i hi => ?_⟩
    · unfold after
      rw [ht i hi]
      exact h.waits i hi
    · unfold after
      rw [ht i hi]
      exact hn i hi
theorem free_looks (s : Sl) (q : Int) : Sl.free { s with looks := q } = s.free := rfl
theorem big_div {a : Int} (h0 : 0 ≤ a) (h1 : a < 4294967296) : a / 2 ^ (31 + 1) = 0 := by
  rw [show (2 : Int) ^ (31 + 1) = 4294967296 by decide]
  omega
/-- Somebody is there. -/
theorem step_W {n : Nat} {σ : Nat → Sl} {s : Sc} (h : InW n σ s) (hw : ∀ i, i < n → (σ i).wf) (hx : ∃ i, i < n ∧ (σ i).free = true) : anyF s.asksF σ n = true ∧ InB n (after s.asksF σ) (ansF s true) 0 31 := by
  have h5 : s.asksF.b5 = 128 := by
    unfold Sc.asksF
    rw [if_pos h.asks]
  have ht : ∀ i, i < n → (σ i).free = true → takeF s.asksF (σ i) = (true, { σ i with looks := 0 }) := fun i hi hf => by
    rw [takeF_81 (asksF_c s), hf]
    simp only [if_true]
    unfold scanF
    rw [if_pos h5]
  have hnf : ∀ i, (σ i).free = false → takeF s.asksF (σ i) = (false, σ i) := fun i hf => by
    rw [takeF_81 (asksF_c s), hf]
    rfl
  obtain ⟨j, hj, hjf⟩ := hx
  constructor
  · exact (anyF_iff _ _ _).2 ⟨j, hj, by rw [ht j hj hjf]⟩
  · have e : ansF s true = { s with asks := 1, asked := false, took := s.took + 1 } := by
      unfold ansF
      rw [if_neg (by rw [h.asks]; decide), if_neg (by decide), if_pos h.asks]
    rw [e]
    refine ⟨rfl, h.part, h.bit, by decide, by decide, h.found, fun k _ => h.zeros k, by simp [h.zeros], fun i hi hf => ?_, fun i hi => ?_, j, hj, ?_, ?_, ?_⟩
    · rcases hfi : (σ i).free
      · unfold after at hf
        rw [hnf i hfi, hfi] at hf
        cases hf
      · unfold after
        rw [ht i hi hfi]
        exact ⟨Int.le_refl _, Int.le_refl _, fun _ k hk => by omega⟩
    · unfold after
      rcases hfi : (σ i).free
      · rw [hnf i hfi]
        exact h.waits i hi
      · rw [ht i hi hfi]
        exact h.waits i hi
    · unfold after
      rw [ht j hj hjf]
      exact hjf
    · unfold after
      rw [ht j hj hjf]
      rfl
    · unfold after
      rw [ht j hj hjf]
      have hA := hw j hj 0
      simp only [h.zeros]
      rw [big_div hA.1 hA.2, big_div (by decide) (by decide)]
theorem InB.frame {n : Nat} {σ : Nat → Sl} {s : Sc} {p b : Nat} (h : InB n σ s p b) : s.asksF.b5 = b ∧ s.asksF.b6 = p ∧ s.asksF.b7 = p := by
  unfold Sc.asksF
  rw [if_neg (by rw [h.asks]; decide), if_pos h.asks]
  exact ⟨h.bit, h.part, h.part⟩
theorem InH.frame {n : Nat} {σ : Nat → Sl} {s : Sc} {p : Nat} (h : InH n σ s p) : s.asksF.b5 = 0 ∧ s.asksF.b6 = p ∧ s.asksF.b7 = (p + 1) % 4 := by
  unfold Sc.asksF
  rw [if_neg (by rw [h.asks]; decide), if_neg (by rw [h.asks]; decide)]
  exact ⟨rfl, h.part, by rw [h.part]⟩
theorem pow_pos' (b : Nat) : (0 : Int) < 2 ^ b := by
  have : (2 : Int) ^ b = ((2 ^ b : Nat) : Int) := by simp
  rw [this]
  have := Nat.two_pow_pos b
  omega
theorem half_div (a : Int) (b : Nat) : a / 2 ^ (b + 1) = a / 2 ^ b / 2 := by
  rw [Int.pow_succ, Int.ediv_ediv_of_nonneg (Int.le_of_lt (pow_pos' b))]
/-- A bit is 1: the number that is known becomes that. -/
theorem next_bit {a k : Int} {b : Nat} (hk : k % 2 ^ (b + 1) = 0) (h1 : a / 2 ^ (b + 1) = k / 2 ^ (b + 1)) (h2 : ¬ a / 2 ^ b = k / 2 ^ b) : a / 2 ^ b = (k + 2 ^ b) / 2 ^ b ∧ (k + 2 ^ b) % 2 ^ b = 0 := by
  have hp := pow_pos' b
  have e1 : (k + 2 ^ b) / 2 ^ b = k / 2 ^ b + 1 := by
    rw [Int.add_ediv_of_dvd_right (Int.dvd_refl _), Int.ediv_self (by omega)]
  have hd : (2 : Int) ^ b ∣ k := by
    have : (2 : Int) ^ (b + 1) ∣ k := Int.dvd_of_emod_eq_zero hk
    exact Int.dvd_trans ⟨2, by rw [Int.pow_succ]⟩ this
  have hk2 : k / 2 ^ b % 2 = 0 := by
    obtain ⟨m, hm⟩ := Int.dvd_of_emod_eq_zero hk
    rw [hm, Int.pow_succ, Int.mul_assoc, Int.mul_ediv_cancel_left _ (by omega)]
    omega
  rw [half_div, half_div] at h1
  refine ⟨by rw [e1]; omega, ?_⟩
  exact Int.emod_eq_zero_of_dvd (Int.dvd_add hd (Int.dvd_refl _))
theorem low_half {k : Int} {b : Nat} (hk : k % 2 ^ (b + 1) = 0) : k % 2 ^ b = 0 := by
  have : (2 : Int) ^ (b + 1) ∣ k := Int.dvd_of_emod_eq_zero hk
  exact Int.emod_eq_zero_of_dvd (Int.dvd_trans ⟨2, by rw [Int.pow_succ]⟩ this)
/-- A bit: nobody moves. -/
theorem InB.take {n : Nat} {σ : Nat → Sl} {s : Sc} {p b : Nat} (h : InB n σ s p b) (k0 : 0 ≤ s.K p) (k1 : s.K p < 4294967296) (x : Sl) :
    takeF s.asksF x = (x.free && decide (x.looks = p) && decide (x.A p / 2 ^ b = s.K p / 2 ^ b), x) := by
  obtain ⟨h5, h6, h7⟩ := h.frame
  have hn : s.asksF.num = s.K p := by
    have e : s.part.toNat = p := by rw [h.part, Int.toNat_natCast]
    rw [asksF_num s (by rw [e]; exact k0) (by rw [e]; exact k1), e]
  rw [takeF_81 (asksF_c s)]
  rcases hf : x.free
  · simp
  · simp only [if_true, Bool.true_and]
    unfold scanF
    have hb := h.b31
    rw [if_neg (by rw [h5]; omega), h5, h6, h7, hn, Int.toNat_natCast, Int.toNat_natCast]
    by_cases hl : (p : Int) = x.looks
    · by_cases hm : x.A p / 2 ^ b = s.K p / 2 ^ b
      · rw [if_pos ⟨hl, hm⟩, decide_eq_true hm, decide_eq_true hl.symm]
        congr 1
        split
        · unfold nextF
          rw [if_neg (by omega)]
          obtain ⟨A, pid, uid, mode, looks⟩ := x
          simp only at hl
          rw [hl]
        · rfl
      · rw [if_neg (fun k => hm k.2), decide_eq_false hm]
        simp
    · rw [if_neg (fun k => hl k.1), decide_eq_false (fun k => hl k.symm)]
      simp
theorem step_B {n : Nat} {σ : Nat → Sl} {s : Sc} {p b : Nat} (h : InB n σ s p b) (_hw : ∀ i, i < n → (σ i).wf) (k0 : 0 ≤ s.K p) (k1 : s.K p < 4294967296) :
    after s.asksF σ = σ ∧ (if b = 0 then InH n σ (ansF s (anyF s.asksF σ n)) p else InB n σ (ansF s (anyF s.asksF σ n)) p (b - 1)) := by
  have ht := h.take k0 k1
  have hfix : after s.asksF σ = σ := by
    funext i
    unfold after
    rw [ht]
  refine ⟨hfix, ?_⟩
  obtain ⟨y, hy⟩ : ∃ y, anyF s.asksF σ n = y := ⟨_, rfl⟩
  rw [hy]
  have e : ansF s y = { s with asks := if s.bit = 0 then 2 else 1, bit := s.bit - 1, asked := false, took := s.took + 1, K := if y then s.K else fun k => if k = s.part.toNat then s.K k + 2 ^ s.bit.toNat else s.K k } := if_pos h.asks
  rw [e]
  obtain ⟨K', hK'⟩ : ∃ K' : Nat → Int, (if y then s.K else fun k => if k = s.part.toNat then s.K k + 2 ^ s.bit.toNat else s.K k) = K' := ⟨_, rfl⟩
  rw [hK']
  have hother : ∀ k, k ≠ p → K' k = s.K k := fun k hk => by
    rw [← hK', h.part, Int.toNat_natCast]
    split
    · rfl
    · simp [hk]
  have hz : Zeros K' p := fun k hk => by rw [hother k (by omega)]; exact h.zeros k hk
  have hl : Looks n σ K' p := fun i hi hf => by
    obtain ⟨l0, l1, l2⟩ := h.looks i hi hf
    exact ⟨l0, l1, fun hl k hk => by rw [hother k (by omega)]; exact l2 hl k hk⟩
  have hlive : (∃ i, i < n ∧ (σ i).free = true ∧ (σ i).looks = p ∧ (σ i).A p / 2 ^ b = K' p / 2 ^ b) ∧ K' p % 2 ^ b = 0 := by
    rcases y
    · obtain ⟨i, hi, hf, hlo, hA⟩ := h.live
      have hno : ¬ (σ i).A p / 2 ^ b = s.K p / 2 ^ b := fun k => by
        have hh : anyF s.asksF σ n = true := (anyF_iff _ _ _).2 ⟨i, hi, by rw [ht, hf, decide_eq_true hlo, decide_eq_true k]; rfl⟩
        rw [hy] at hh
        cases hh
      have hkp : K' p = s.K p + 2 ^ b := by
        rw [← hK', h.part, h.bit, Int.toNat_natCast, Int.toNat_natCast]
        simp
      obtain ⟨q1, q2⟩ := next_bit h.low hA hno
      rw [hkp]
      exact ⟨⟨i, hi, hf, hlo, q1⟩, q2⟩
    · have hkp : K' p = s.K p := by rw [← hK']; simp
      obtain ⟨i, hi, hk⟩ := (anyF_iff _ _ _).1 hy
      rw [ht] at hk
      simp only [Bool.and_eq_true, decide_eq_true_eq] at hk
      rw [hkp]
      exact ⟨⟨i, hi, hk.1.1, hk.1.2, hk.2⟩, low_half h.low⟩
  obtain ⟨⟨i, hi, hf, hlo, hA⟩, hlow⟩ := hlive
  by_cases hb : b = 0
  · subst hb
    rw [if_pos rfl]
    refine ⟨?_, h.part, h.p3, h.found, hz, hl, h.waits, i, hi, hf, hlo, ?_⟩
    · simp only [h.bit]
      rfl
    · simpa using hA
  · rw [if_neg hb]
    refine ⟨?_, h.part, ?_, h.p3, ?_, h.found, hz, ?_, hl, h.waits, i, hi, hf, hlo, ?_⟩
    · simp only [h.bit]
      rw [if_neg (by omega)]
    · simp only [h.bit]
      omega
    · have := h.b31
      omega
    · rw [show b - 1 + 1 = b by omega]
      exact hlow
    · rw [show b - 1 + 1 = b by omega]
      exact hA
/-- The whole of a part. -/
theorem InH.take {n : Nat} {σ : Nat → Sl} {s : Sc} {p : Nat} (h : InH n σ s p) (k0 : 0 ≤ s.K p) (k1 : s.K p < 4294967296) (x : Sl) :
    takeF s.asksF x = if x.free = true ∧ x.looks = p ∧ x.A p = s.K p then (true, if p = 3 then { x with looks := 0, mode := 1 } else { x with looks := (p : Int) + 1 }) else (false, x) := by
  obtain ⟨h5, h6, h7⟩ := h.frame
  have hn : s.asksF.num = s.K p := by
    have e : s.part.toNat = p := by rw [h.part, Int.toNat_natCast]
    rw [asksF_num s (by rw [e]; exact k0) (by rw [e]; exact k1), e]
  rw [takeF_81 (asksF_c s)]
  rcases hf : x.free
  · simp
  · simp only [if_true, true_and]
    unfold scanF
    have hp := h.p3
    rw [if_neg (by rw [h5]; omega), h5, h6, h7, hn, Int.toNat_natCast]
    by_cases hm : x.looks = p ∧ x.A p = s.K p
    · rw [if_pos ⟨hm.1.symm, by rw [hm.2]⟩, if_pos hm, if_pos rfl]
      unfold nextF
      by_cases h3 : p = 3
      · subst h3
        rfl
      · rw [if_neg h3, if_neg (by omega), show ((p : Int) + 1) % 4 = (p : Int) + 1 by omega]
    · rw [if_neg hm, if_neg (fun k => hm ⟨k.1.symm, by simpa using k.2⟩)]
theorem step_H {n : Nat} {σ : Nat → Sl} {s : Sc} {p : Nat} (h : InH n σ s p) (hw : ∀ i, i < n → (σ i).wf) (k0 : 0 ≤ s.K p) (k1 : s.K p < 4294967296) :
    anyF s.asksF σ n = true ∧ (if p = 3 then InF n (after s.asksF σ) (ansF s true) else InB n (after s.asksF σ) (ansF s true) (p + 1) 31) := by
  have ht := h.take k0 k1
  obtain ⟨i, hi, hf, hlo, hA⟩ := h.live
  refine ⟨(anyF_iff _ _ _).2 ⟨i, hi, by rw [ht, if_pos ⟨hf, hlo, hA⟩]⟩, ?_⟩
  have hfree : ∀ j, (after s.asksF σ j).free = (σ j).free := fun j => by
    unfold after
    rw [ht]
    split
    · split <;> rfl
    · rfl
  have hAA : ∀ j, (after s.asksF σ j).A = (σ j).A := fun j => takeF_A _ _
  by_cases h3 : p = 3
  · subst h3
    rw [if_pos rfl]
    have e : ansF s true = { s with asks := 3, part := 4, bit := 31, found := true, asked := false, took := s.took + 1 } := by
      unfold ansF
      rw [if_neg (by rw [h.asks]; decide), if_neg (by decide), if_neg (by rw [h.asks]; decide), if_pos (show s.part = 3 from h.part)]
    rw [e]
    refine ⟨rfl, rfl, fun j hj => ?_, i, hi, ?_⟩
    · rw [hAA, hfree]
      have hm0 := h.waits j hj
      unfold after
      rw [ht]
      by_cases hc : (σ j).free = true ∧ (σ j).looks = ((3 : Nat) : Int) ∧ (σ j).A 3 = s.K 3
      · rw [if_pos hc]
        refine .inr ⟨rfl, hc.1, fun k hk => ?_⟩
        by_cases hk3 : k = 3
        · subst hk3
          exact hc.2.2
        · exact (h.looks j hj hc.1).2.2 hc.2.1 k (by omega)
      · rw [if_neg hc]
        exact .inl hm0
    · unfold after
      rw [ht, if_pos ⟨hf, hlo, hA⟩]
      rfl
  · rw [if_neg h3]
    have hp3 := h.p3
    have e : ansF s true = { s with asks := 1, part := s.part + 1, bit := 31, asked := false, took := s.took + 1 } := by
      unfold ansF
      rw [if_neg (by rw [h.asks]; decide), if_neg (by decide), if_neg (by rw [h.asks]; decide), if_neg (by rw [h.part]; omega)]
    rw [e]
    have hz0 : s.K (p + 1) = 0 := h.zeros _ (by omega)
    refine ⟨rfl, ?_, rfl, by omega, by decide, h.found, fun k hk => h.zeros k (by omega), ?_, fun j hj hfj => ?_, fun j hj => ?_, i, hi, ?_, ?_, ?_⟩
    · simp only [h.part]
      omega
    · simp only [hz0]
      rfl
    · rw [hfree] at hfj
      obtain ⟨l0, l1, l2⟩ := h.looks j hj hfj
      rw [hAA]
      unfold after
      rw [ht]
      by_cases hc : (σ j).free = true ∧ (σ j).looks = (p : Int) ∧ (σ j).A p = s.K p
      · rw [if_pos hc, if_neg h3]
        refine ⟨?_, ?_, fun _ k hk => ?_⟩
        · show (0 : Int) ≤ (p : Int) + 1
          omega
        · show (p : Int) + 1 ≤ ((p + 1 : Nat) : Int)
          omega
        · by_cases hkp : k = p
          · subst hkp
            exact hc.2.2
          · exact l2 hc.2.1 k (by omega)
      · rw [if_neg hc]
        refine ⟨l0, Int.le_trans l1 (by omega), fun hl => ?_⟩
        have hl2 : (σ j).looks = ((p + 1 : Nat) : Int) := hl
        omega
    · have hm0 := h.waits j hj
      unfold after
      rw [ht]
      by_cases hc : (σ j).free = true ∧ (σ j).looks = (p : Int) ∧ (σ j).A p = s.K p
      · rw [if_pos hc, if_neg h3]
        exact hm0
      · rw [if_neg hc]
        exact hm0
    · rw [hfree]
      exact hf
    · unfold after
      rw [ht, if_pos ⟨hf, hlo, hA⟩, if_neg h3]
      show (p : Int) + 1 = ((p + 1 : Nat) : Int)
      omega
    · rw [hAA]
      simp only [hz0]
      have hAw := hw i hi (p + 1)
      rw [big_div hAw.1 hAw.2, big_div (by decide) (by decide)]
/-- All that holds while it asks. -/
structure All (n : Nat) (σ0 σ : Nat → Sl) (s : Sc) : Prop where
  inv : Inv n σ s
  same : Same n σ0 σ
  wf : ∀ i, i < n → (σ i).wf
  K : ∀ k, 0 ≤ s.K k ∧ s.K k < 4294967296
  t0 : 0 ≤ s.took
  t1 : s.took + left s ≤ 1000
theorem after_wf {n : Nat} {σ : Nat → Sl} {f : Fr} (h : ∀ i, i < n → (σ i).wf) : ∀ i, i < n → (after f σ i).wf := fun i hi => by
  unfold after Sl.wf
  rw [takeF_A]
  exact h i hi
theorem all_Can {n : Nat} {σ0 σ : Nat → Sl} {s : Sc} (h : All n σ0 σ s) (ha : s.asks ≠ 3) : ∀ i, i < n → Can s.asksF (σ i) := by
  intro i hi
  refine .inr (.inr ⟨asksF_c s, ?_⟩)
  rcases h.inv.goes ha with h | ⟨p, b, h⟩ | ⟨p, h⟩
  · refine ⟨h.waits i hi, .inl ?_⟩
    unfold Sc.asksF
    rw [if_pos h.asks]
  · obtain ⟨h5, h6, h7⟩ := h.frame
    have := h.b31
    have := h.p3
    exact ⟨h.waits i hi, .inr ⟨by omega, by omega, by omega⟩⟩
  · obtain ⟨h5, h6, h7⟩ := h.frame
    have := h.p3
    exact ⟨h.waits i hi, .inr ⟨by omega, by omega, by omega⟩⟩
theorem all_step {n : Nat} {σ0 σ : Nat → Sl} {s : Sc} (h : All n σ0 σ s) (ha : s.asks ≠ 3) :
    All n σ0 (after s.asksF σ) (ansF s (anyF s.asksF σ n)) ∧ left (ansF s (anyF s.asksF σ n)) < left s := by
  have hsame := h.same.step (f := s.asksF) (asksF_c s)
  have hwf := after_wf (f := s.asksF) h.wf
  have ht0 := h.t0
  have ht1 := h.t1
  have htk : ∀ y, (ansF s y).took = s.took + 1 := fun y => by
    unfold ansF
    repeat' split
    all_goals rfl
  have fin : Inv n (after s.asksF σ) (ansF s (anyF s.asksF σ n)) → (∀ k, 0 ≤ (ansF s (anyF s.asksF σ n)).K k ∧ (ansF s (anyF s.asksF σ n)).K k < 4294967296) → left (ansF s (anyF s.asksF σ n)) < left s →
      All n σ0 (after s.asksF σ) (ansF s (anyF s.asksF σ n)) ∧ left (ansF s (anyF s.asksF σ n)) < left s := fun i1 i2 i3 =>
    ⟨⟨i1, hsame, hwf, i2, by rw [htk]; omega, by rw [htk]; omega⟩, i3⟩
  have hKs : ∀ y, s.asks ≠ 1 → (ansF s y).K = s.K := fun y h1 => by
    unfold ansF
    rw [if_neg h1]
    repeat' split
    all_goals rfl
  rcases h.inv.goes ha with hW | ⟨p, b, hB⟩ | ⟨p, hH⟩
  · have l0 : left s = 1000 := by unfold left; rw [if_pos hW.asks]
    by_cases hx : ∃ i, i < n ∧ (σ i).free = true
    · obtain ⟨e, h1⟩ := step_W hW h.wf hx
      rw [e] at fin ⊢
      refine fin (.inr (.inl ⟨_, _, h1⟩)) (fun k => by rw [hKs _ (by rw [hW.asks]; decide)]; exact h.K k) ?_
      rw [l0]
      unfold left
      rw [if_neg (by rw [h1.asks]; decide), if_pos h1.asks, h1.part, h1.bit]
      decide
    · obtain ⟨e, h1⟩ := step_N hW (fun i hi => by
        rcases hf : (σ i).free
        · rfl
        · exact absurd ⟨i, hi, hf⟩ hx)
      rw [e] at fin ⊢
      refine fin (.inr (.inr (.inr (.inl h1)))) (fun k => by rw [hKs _ (by rw [hW.asks]; decide)]; exact h.K k) ?_
      rw [l0]
      unfold left
      rw [if_neg (by rw [h1.asks]; decide), if_neg (by rw [h1.asks]; decide), if_neg (by rw [h1.asks]; decide)]
      decide
  · obtain ⟨e, h1⟩ := step_B hB h.wf (h.K p).1 (h.K p).2
    have l0 : left s = (3 - p) * 33 + b + 2 := by
      unfold left
      rw [if_neg (by rw [hB.asks]; decide), if_pos hB.asks, hB.part, hB.bit, Int.toNat_natCast, Int.toNat_natCast]
    rw [e] at fin ⊢
    obtain ⟨s', hs'⟩ : ∃ s', ansF s (anyF s.asksF σ n) = s' := ⟨_, rfl⟩
    have hother : ∀ k, k ≠ p → s'.K k = s.K k := fun k hk => by
      rw [← hs']
      unfold ansF
      rw [if_pos hB.asks]
      simp only [hB.part, Int.toNat_natCast]
      split
      · rfl
      · simp [hk]
    rw [hs'] at fin h1 ⊢
    by_cases hb : b = 0
    · rw [if_pos hb] at h1
      refine fin (.inr (.inr (.inl ⟨_, h1⟩))) (fun k => ?_) ?_
      · by_cases hk : k = p
        · subst hk
          obtain ⟨i, hi, _, _, hA⟩ := h1.live
          rw [← hA]
          exact h.wf i hi k
        · rw [hother k hk]
          exact h.K k
      · rw [l0]
        unfold left
        rw [if_neg (by rw [h1.asks]; decide), if_neg (by rw [h1.asks]; decide), if_pos h1.asks, h1.part, Int.toNat_natCast]
        omega
    · rw [if_neg hb] at h1
      refine fin (.inr (.inl ⟨_, _, h1⟩)) (fun k => ?_) ?_
      · by_cases hk : k = p
        · subst hk
          obtain ⟨i, hi, _, _, hA⟩ := h1.live
          have hlow := h1.low
          have hpos := pow_pos' (b - 1 + 1)
          have hAw := h.wf i hi k
          have e1 := Int.mul_ediv_add_emod (s'.K k) (2 ^ (b - 1 + 1))
          have e2 := Int.mul_ediv_add_emod ((σ i).A k) (2 ^ (b - 1 + 1))
          have e3 := Int.emod_nonneg ((σ i).A k) (show (2 : Int) ^ (b - 1 + 1) ≠ 0 by omega)
          rw [hlow] at e1
          rw [hA] at e2
          have e4 : 0 ≤ (σ i).A k / 2 ^ (b - 1 + 1) := Int.ediv_nonneg hAw.1 (by omega)
          rw [hA] at e4
          have e5 := Int.mul_nonneg (Int.le_of_lt hpos) e4
          omega
        · rw [hother k hk]
          exact h.K k
      · rw [l0]
        unfold left
        rw [if_neg (by rw [h1.asks]; decide), if_pos h1.asks, h1.part, h1.bit, Int.toNat_natCast, Int.toNat_natCast]
        omega
  · obtain ⟨e, h1⟩ := step_H hH h.wf (h.K p).1 (h.K p).2
    have l0 : left s = (3 - p) * 33 + 1 := by
      unfold left
      rw [if_neg (by rw [hH.asks]; decide), if_neg (by rw [hH.asks]; decide), if_pos hH.asks, hH.part, Int.toNat_natCast]
    rw [e] at fin ⊢
    by_cases h3 : p = 3
    · rw [if_pos h3] at h1
      refine fin (.inr (.inr (.inr (.inr h1)))) (fun k => by rw [hKs _ (by rw [hH.asks]; decide)]; exact h.K k) ?_
      rw [l0]
      unfold left
      rw [if_neg (by rw [h1.asks]; decide), if_neg (by rw [h1.asks]; decide), if_neg (by rw [h1.asks]; decide)]
      omega
    · rw [if_neg h3] at h1
      have hp3 := hH.p3
      refine fin (.inr (.inl ⟨_, _, h1⟩)) (fun k => by rw [hKs _ (by rw [hH.asks]; decide)]; exact h.K k) ?_
      rw [l0]
      unfold left
      rw [if_neg (by rw [h1.asks]; decide), if_pos h1.asks, h1.part, h1.bit]
      simp only [Int.toNat_natCast]
      omega
end Go.Proofs.Ytcmfcnljdeddfaa.Num
