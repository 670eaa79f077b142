/- What is kept when the power goes: plain law. -/
import Derived.Test.YtgegpeicpbhnkaaNvmP
namespace Go.Proofs.Ytgegpeicpbhnkaa.Nvm
open Go.RowKit Go.Proofs.Ytgegpeicpbhnkaa.Own Go.Proofs.Ytgegpeicpbhnkaa.Crc
theorem write_goes {c : Ch} (hd : c.dead = false) (hl : 0 < c.left) (k : Nat) (hk : k < c.n) (b : Nat → Int) : c.write (k : Int) b = (true, { c with P := put c.P k b, left := c.left - 1 }) := by
  unfold Ch.write
  rw [if_pos ⟨hd, by omega, by omega⟩, if_neg (by omega), if_pos hl, Int.toNat_natCast]
theorem write_gone {c : Ch} (hd : c.dead = false) (hl : c.left = 0) (k : Nat) (hk : k < c.n) (b : Nat → Int) : c.write (k : Int) b = (false, { c with left := -1, dead := true }) := by
  unfold Ch.write
  rw [if_pos ⟨hd, by omega, by omega⟩, if_pos hl]
theorem putsGo_goes (f : Nat) (xs : List Int) : ∀ (k i : Nat) (c : Ch), c.dead = false → (k : Int) ≤ c.left → f + 1 + i + k ≤ c.n → ∃ P, putsGo f xs k i c = (true, { c with P := P, left := c.left - k }) ∧
    (∀ j, j < (f + 1 + i) * 8 ∨ (f + 1 + i + k) * 8 ≤ j → P j = c.P j) ∧ (∀ j, j < 8 * k → P ((f + 1 + i) * 8 + j) = xs.getD (8 * i + j) 0)
  | 0, i, c, hd, hl, hn => ⟨c.P, by unfold putsGo; simp, fun _ _ => rfl, fun j hj => by omega⟩
  | k + 1, i, c, hd, hl, hn => by
    have hw := write_goes hd (by omega) (f + (i + 1)) (by omega) (pageOf xs i)
    rw [Int.natCast_add, Int.natCast_add] at hw
    obtain ⟨P, h1, h2, h3⟩ := putsGo_goes f xs k (i + 1) { c with P := put c.P (f + (i + 1)) (pageOf xs i), left := c.left - 1 } hd (by simp only; omega) (by simp only; omega)
    refine ⟨P, ?_, ?_, ?_⟩
    · unfold putsGo
      simp only [Int.natCast_one] at hw
      rw [hw]
      simp only [if_true]
      rw [h1]
      simp only
      congr 2
      omega
    · intro j hj
      have e2 : put c.P (f + (i + 1)) (pageOf xs i) j = c.P j := put_out (by omega)
      rw [h2 j (by omega)]
      exact e2
    · intro j hj
      by_cases hj8 : j < 8
      · rw [h2 _ (by omega), show (f + 1 + i) * 8 + j = (f + (i + 1)) * 8 + j by omega]
        show put c.P (f + (i + 1)) (pageOf xs i) ((f + (i + 1)) * 8 + j) = _
        rw [put_in hj8]
        unfold pageOf
        simp only [List.getD_eq_getElem?_getD, List.getElem?_drop]
      · have := h3 (j - 8) (by omega)
        rw [show (f + 1 + (i + 1)) * 8 + (j - 8) = (f + 1 + i) * 8 + j by omega, show 8 * (i + 1) + (j - 8) = 8 * i + j by omega] at this
        exact this
theorem putsGo_gone (f : Nat) (xs : List Int) : ∀ (k i : Nat) (c : Ch), c.dead = false → 0 ≤ c.left → c.left < (k : Int) → f + 1 + i + k ≤ c.n → ∃ P, putsGo f xs k i c = (false, { c with P := P, left := -1, dead := true }) ∧
    (∀ j, j < (f + 1 + i) * 8 ∨ (f + 1 + i + k) * 8 ≤ j → P j = c.P j)
  | 0, i, c, hd, h0, hl, hn => by omega
  | k + 1, i, c, hd, h0, hl, hn => by
    by_cases hz : c.left = 0
    · have hw := write_gone hd hz (f + (i + 1)) (by omega) (pageOf xs i)
      rw [Int.natCast_add, Int.natCast_add] at hw
      simp only [Int.natCast_one] at hw
      refine ⟨c.P, ?_, fun _ _ => rfl⟩
      unfold putsGo
      rw [hw]
      rfl
    · have hw := write_goes hd (by omega) (f + (i + 1)) (by omega) (pageOf xs i)
      rw [Int.natCast_add, Int.natCast_add] at hw
      simp only [Int.natCast_one] at hw
      obtain ⟨P, h1, h2⟩ := putsGo_gone f xs k (i + 1) { c with P := put c.P (f + (i + 1)) (pageOf xs i), left := c.left - 1 } hd (by simp only; omega) (by simp only; omega) (by simp only; omega)
      refine ⟨P, ?_, ?_⟩
      · unfold putsGo
        rw [hw]
        simp only [if_true]
        rw [h1]
      · intro j hj
        have e2 : put c.P (f + (i + 1)) (pageOf xs i) j = c.P j := put_out (by omega)
        rw [h2 j (by omega)]
        exact e2
theorem putsF_goes {c : Ch} (hd : c.dead = false) (f m : Nat) (hm : 1 ≤ m) (hf : f + m ≤ c.n) (cnt : Int) (xs : List Int) (hl : xs.length ≤ 8 * (m - 1)) (hg : 2 + (pagesOf xs : Int) ≤ c.left) :
    ∃ P, putsF c f cnt xs = (true, { c with P := P, left := c.left - (2 + pagesOf xs) }) ∧ (∀ j, j < f * 8 ∨ (f + m) * 8 ≤ j → P j = c.P j) ∧ (∀ j, j < xs.length → P ((f + 1) * 8 + j) = xs.getD j 0) ∧ (∀ r, r < 8 → P (f * 8 + r) = headB cnt xs r) := by
  have hp : pagesOf xs ≤ m - 1 := by unfold pagesOf; omega
  have hw := write_goes hd (by omega) f (by omega) (fun _ => 0)
  obtain ⟨P, h1, h2, h3⟩ := putsGo_goes f xs (pagesOf xs) 0 { c with P := put c.P f (fun _ => 0), left := c.left - 1 } hd (by simp only; omega) (by simp only; omega)
  have hw2 := write_goes (c := { c with P := P, left := c.left - 1 - pagesOf xs }) hd (by simp only; omega) f (by simp only; omega) (headB cnt xs)
  refine ⟨put P f (headB cnt xs), ?_, ?_, ?_, ?_⟩
  · unfold putsF
    rw [hw]
    simp only [if_true]
    rw [h1]
    simp only [if_true]
    rw [hw2]
    simp only
    congr 2
    omega
  · intro j hj
    have e1 : put P f (headB cnt xs) j = P j := put_out (by omega)
    have e2 : put c.P f (fun _ => 0) j = c.P j := put_out (by omega)
    rw [e1, h2 j (by omega)]
    exact e2
  · intro j hj
    have hj2 : j < 8 * pagesOf xs := by unfold pagesOf; omega
    have e1 : put P f (headB cnt xs) ((f + 1) * 8 + j) = P ((f + 1) * 8 + j) := put_out (by omega)
    rw [e1]
    have := h3 j hj2
    simpa using this
  · intro r hr
    exact put_in hr
theorem putsF_gone {c : Ch} (hd : c.dead = false) (h0 : 0 ≤ c.left) (f m : Nat) (hm : 1 ≤ m) (hf : f + m ≤ c.n) (cnt : Int) (xs : List Int) (hl : xs.length ≤ 8 * (m - 1)) (hg : c.left < 2 + (pagesOf xs : Int)) :
    ∃ P, putsF c f cnt xs = (false, { c with P := P, left := -1, dead := true }) ∧ (P = c.P ∨ ((∀ j, j < f * 8 ∨ (f + m) * 8 ≤ j → P j = c.P j) ∧ P (f * 8) = 0 ∧ P (f * 8 + 1) = 0)) := by
  have hp : pagesOf xs ≤ m - 1 := by unfold pagesOf; omega
  by_cases hz : c.left = 0
  · have hw := write_gone hd hz f (by omega) (fun _ => 0)
    refine ⟨c.P, ?_, .inl rfl⟩
    unfold putsF
    rw [hw]
    rfl
  · have hw := write_goes hd (by omega) f (by omega) (fun _ => 0)
    have z0 : put c.P f (fun _ => 0) (f * 8) = 0 := put_in (r := 0) (by decide)
    have z1 : put c.P f (fun _ => 0) (f * 8 + 1) = 0 := put_in (r := 1) (by decide)
    by_cases hk : c.left - 1 < (pagesOf xs : Int)
    · obtain ⟨P, h1, h2⟩ := putsGo_gone f xs (pagesOf xs) 0 { c with P := put c.P f (fun _ => 0), left := c.left - 1 } hd (by simp only; omega) (by simp only; omega) (by simp only; omega)
      refine ⟨P, ?_, .inr ⟨?_, ?_, ?_⟩⟩
      · unfold putsF
        rw [hw]
        simp only [if_true]
        rw [h1]
        rfl
      · intro j hj
        have e2 : put c.P f (fun _ => 0) j = c.P j := put_out (by omega)
        rw [h2 j (by omega)]
        exact e2
      · rw [h2 _ (by omega)]
        exact z0
      · rw [h2 _ (by omega)]
        exact z1
    · obtain ⟨P, h1, h2, _⟩ := putsGo_goes f xs (pagesOf xs) 0 { c with P := put c.P f (fun _ => 0), left := c.left - 1 } hd (by simp only; omega) (by simp only; omega)
      have hw2 := write_gone (c := { c with P := P, left := c.left - 1 - pagesOf xs }) hd (by simp only; omega) f (by simp only; omega) (headB cnt xs)
      refine ⟨P, ?_, .inr ⟨?_, ?_, ?_⟩⟩
      · unfold putsF
        rw [hw]
        simp only [if_true]
        rw [h1]
        simp only [if_true]
        rw [hw2]
      · intro j hj
        have e2 : put c.P f (fun _ => 0) j = c.P j := put_out (by omega)
        rw [h2 j (by omega)]
        exact e2
      · rw [h2 _ (by omega)]
        exact z0
      · rw [h2 _ (by omega)]
        exact z1
theorem save_goes {c : Ch} (hd : c.dead = false) (n0 : 4 ≤ c.n) (n1 : c.n ≤ 32768) (wf : ∀ i, 0 ≤ c.P i ∧ c.P i ≤ 255) (xs : List Int) (hb : ∀ x ∈ xs, 0 ≤ x ∧ x ≤ 255) (hl : (xs.length : Int) ≤ 8 * ((c.n : Int) / 2 - 1)) (hg : 2 + (pagesOf xs : Int) ≤ c.left) :
    ∃ P, saveF c xs = (0, { c with P := P, left := c.left - (2 + pagesOf xs) }) ∧ (keptF P c.n).1 = xs ∧ (keptF P c.n).2.1 = nxt (keptF c.P c.n).2.1 := by
  obtain ⟨m, hm⟩ : ∃ m, m = c.n / 2 := ⟨_, rfl⟩
  obtain ⟨P, p1, p2, p3, p4⟩ := putsF_goes hd (nextF c.P c.n) m (by omega) (nextF_fits hm) (nxt (keptF c.P c.n).2.1) xs (by omega) hg
  exact ⟨P, saveF_puts hd hl p1, kept_new hm n0 n1 wf hb (by omega) _ rfl p2 p3 p4⟩
theorem save_gone {c : Ch} (hd : c.dead = false) (h0 : 0 ≤ c.left) (n0 : 4 ≤ c.n) (wf : ∀ i, 0 ≤ c.P i ∧ c.P i ≤ 255) (xs : List Int) (hl : (xs.length : Int) ≤ 8 * ((c.n : Int) / 2 - 1)) (hg : c.left < 2 + (pagesOf xs : Int)) :
    ∃ P, saveF c xs = (6, { c with P := P, left := -1, dead := true }) ∧ (keptF P c.n).1 = (keptF c.P c.n).1 ∧ (keptF P c.n).2.1 = (keptF c.P c.n).2.1 := by
  obtain ⟨m, hm⟩ : ∃ m, m = c.n / 2 := ⟨_, rfl⟩
  obtain ⟨P, p1, p2⟩ := putsF_gone hd h0 (nextF c.P c.n) m (by omega) (nextF_fits hm) (nxt (keptF c.P c.n).2.1) xs (by omega) hg
  refine ⟨P, saveF_puts hd hl p1, ?_⟩
  rcases p2 with rfl | ⟨p2, p3, p4⟩
  · exact ⟨rfl, rfl⟩
  · exact kept_old hm n0 wf _ rfl p2 p3 p4
end Go.Proofs.Ytgegpeicpbhnkaa.Nvm
