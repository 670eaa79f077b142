/- What is saved is kept: plain law. -/
import Derived.Test.YtgegpeicpbhnkaaNvmI
namespace Go.Proofs.Ytgegpeicpbhnkaa.Nvm
open Go.RowKit Go.Proofs.Ytgegpeicpbhnkaa.Own Go.Proofs.Ytgegpeicpbhnkaa.Crc
/-- A chip whose power stays. -/
def Live (c : Ch) : Prop := c.dead = false ∧ c.left < 0
theorem write_live {c : Ch} (h : Live c) (k : Nat) (hk : k < c.n) (b : Nat → Int) : c.write (k : Int) b = (true, { c with P := put c.P k b }) := by
  unfold Ch.write
  obtain ⟨h1, h2⟩ := h
  rw [if_pos ⟨h1, by omega, by omega⟩, if_neg (by omega), if_neg (by omega), Int.toNat_natCast]
theorem put_in {P b : Nat → Int} {k r : Nat} (hr : r < 8) : put P k b (k * 8 + r) = b r := by
  unfold put
  rw [if_pos (by omega)]
  congr 1
  omega
theorem put_out {P b : Nat → Int} {k i : Nat} (h : i < 8 * k ∨ 8 * k + 8 ≤ i) : put P k b i = P i := by
  unfold put
  rw [if_neg (by omega)]
theorem putsGo_live (f : Nat) (xs : List Int) : ∀ (k i : Nat) (c : Ch), Live c → f + 1 + i + k ≤ c.n → ∃ P, putsGo f xs k i c = (true, { c with P := P }) ∧
    (∀ j, j < (f + 1 + i) * 8 ∨ (f + 1 + i + k) * 8 ≤ j → P j = c.P j) ∧ (∀ j, j < 8 * k → P ((f + 1 + i) * 8 + j) = xs.getD (8 * i + j) 0)
  | 0, i, c, h, hn => ⟨c.P, rfl, fun _ _ => rfl, fun j hj => by omega⟩
  | k + 1, i, c, h, hn => by
    have hw := write_live h (f + (i + 1)) (by omega) (pageOf xs i)
    rw [Int.natCast_add, Int.natCast_add] at hw
    obtain ⟨P, h1, h2, h3⟩ := putsGo_live f xs k (i + 1) { c with P := put c.P (f + (i + 1)) (pageOf xs i) } h (by simp only; omega)
    refine ⟨P, ?_, ?_, ?_⟩
    · unfold putsGo
      simp only [Int.natCast_one] at hw
      rw [hw]
      simp only [if_true]
      exact h1
    · intro j hj
      have e2 : put c.P (f + (i + 1)) (pageOf xs i) j = c.P j := put_out (by omega)
      rw [h2 j (by omega)]
      exact e2
    · intro j hj
      by_cases hj8 : j < 8
      · rw [h2 _ (by omega), show (f + 1 + i) * 8 + j = (f + (i + 1)) * 8 + j by omega]
        show put c.P (f + (i + 1)) (pageOf xs i) ((f + (i + 1)) * 8 + j) = _
        rw [put_in hj8]
        unfold pageOf
        simp only [List.getD_eq_getElem?_getD, List.getElem?_drop]
      · have := h3 (j - 8) (by omega)
        rw [show (f + 1 + (i + 1)) * 8 + (j - 8) = (f + 1 + i) * 8 + j by omega, show 8 * (i + 1) + (j - 8) = 8 * i + j by omega] at this
        exact this
theorem putsF_live {c : Ch} (h : Live c) (f m : Nat) (hm : 1 ≤ m) (hf : f + m ≤ c.n) (cnt : Int) (xs : List Int) (hl : xs.length ≤ 8 * (m - 1)) :
    ∃ P, putsF c f cnt xs = (true, { c with P := P }) ∧ (∀ j, j < f * 8 ∨ (f + m) * 8 ≤ j → P j = c.P j) ∧ (∀ j, j < xs.length → P ((f + 1) * 8 + j) = xs.getD j 0) ∧ (∀ r, r < 8 → P (f * 8 + r) = headB cnt xs r) := by
  have hp : pagesOf xs ≤ m - 1 := by unfold pagesOf; omega
  have hw := write_live h f (by omega) (fun _ => 0)
  obtain ⟨P, h1, h2, h3⟩ := putsGo_live f xs (pagesOf xs) 0 { c with P := put c.P f (fun _ => 0) } h (by simp only; omega)
  have hw2 := write_live (c := { c with P := P }) h f (by simp only; omega) (headB cnt xs)
  refine ⟨put P f (headB cnt xs), ?_, ?_, ?_, ?_⟩
  · unfold putsF
    rw [hw]
    simp only [if_true]
    rw [h1]
    simp only [if_true]
    exact hw2
  · intro j hj
    have e1 : put P f (headB cnt xs) j = P j := put_out (by omega)
    have e2 : put c.P f (fun _ => 0) j = c.P j := put_out (by omega)
    rw [e1, h2 j (by omega)]
    exact e2
  · intro j hj
    have hj2 : j < 8 * pagesOf xs := by unfold pagesOf; omega
    have e1 : put P f (headB cnt xs) ((f + 1) * 8 + j) = P ((f + 1) * 8 + j) := put_out (by omega)
    rw [e1]
    have := h3 j hj2
    simpa using this
  · intro r hr
    exact put_in hr
theorem holdsF_congr {P Q : Nat → Int} {f m : Nat} (hm : 1 ≤ m) (h : ∀ j, f * 8 ≤ j → j < (f + m) * 8 → P j = Q j) : holdsF P f m = holdsF Q f m := by
  have e0 : hCnt P f = hCnt Q f := by unfold hCnt; rw [h _ (by omega) (by omega), h _ (by omega) (by omega)]
  have e1 : hLen P f = hLen Q f := by unfold hLen; rw [h _ (by omega) (by omega), h _ (by omega) (by omega), h _ (by omega) (by omega), h _ (by omega) (by omega)]
  have e2 : hSum P f = hSum Q f := by unfold hSum; rw [h _ (by omega) (by omega), h _ (by omega) (by omega)]
  unfold holdsF
  rw [e0, e1, e2]
  by_cases hb : hCnt Q f = 0 ∨ 8 * ((m : Int) - 1) < hLen Q f
  · rw [if_pos hb, if_pos hb]
  · rw [if_neg hb, if_neg hb]
    have e3 : bodyL P f (hLen Q f).toNat = bodyL Q f (hLen Q f).toNat := by
      unfold bodyL
      apply List.map_congr_left
      intro i hi
      have hi := List.mem_range.1 hi
      exact h _ (by omega) (by omega)
    rw [e3]
theorem holdsF_of {P : Nat → Int} {f m : Nat} {cnt : Int} {xs : List Int} (c0 : 1 ≤ cnt) (c1 : cnt ≤ 65535) (hm1 : m ≤ 32768) (hl : xs.length ≤ 8 * (m - 1)) (hm : 1 ≤ m) (hb : ∀ x ∈ xs, 0 ≤ x ∧ x ≤ 255)
    (h1 : ∀ j, j < xs.length → P ((f + 1) * 8 + j) = xs.getD j 0) (h2 : ∀ r, r < 8 → P (f * 8 + r) = headB cnt xs r) : holdsF P f m = (xs, cnt) := by
  have hcr : crc (headL cnt xs.length ++ xs) < 65536 := crc_lt (fun x hx => by
    rcases List.mem_append.1 hx with h | h
    · unfold headL at h
      simp only [List.mem_cons, List.not_mem_nil, or_false] at h
      omega
    · exact hb x h)
  have p0 := h2 0 (by decide)
  have p1 := h2 1 (by decide)
  have p2 := h2 2 (by decide)
  have p3 := h2 3 (by decide)
  have p4 := h2 4 (by decide)
  have p5 := h2 5 (by decide)
  have p6 := h2 6 (by decide)
  have p7 := h2 7 (by decide)
  have q0 : headB cnt xs 0 = cnt % 256 := rfl
  have q1 : headB cnt xs 1 = cnt / 256 := rfl
  have q2 : headB cnt xs 2 = (xs.length : Int) % 256 := rfl
  have q3 : headB cnt xs 3 = (xs.length : Int) / 256 % 256 := rfl
  have q4 : headB cnt xs 4 = (xs.length : Int) / 65536 % 256 := rfl
  have q5 : headB cnt xs 5 = (xs.length : Int) / 16777216 % 256 := rfl
  have q6 : headB cnt xs 6 = ((crc (headL cnt xs.length ++ xs) : Nat) : Int) % 256 := rfl
  have q7 : headB cnt xs 7 = ((crc (headL cnt xs.length ++ xs) : Nat) : Int) / 256 := rfl
  have e0 : hCnt P f = cnt := by
    unfold hCnt
    rw [show f * 8 = f * 8 + 0 from rfl, p0, show f * 8 + 0 + 1 = f * 8 + 1 from rfl, p1, q0, q1]
    omega
  have e1 : hLen P f = xs.length := by
    unfold hLen
    rw [p2, p3, p4, p5, q2, q3, q4, q5]
    omega
  have e2 : hSum P f = ((crc (headL cnt xs.length ++ xs) : Nat) : Int) := by
    unfold hSum
    rw [p6, p7, q6, q7]
    omega
  have e3 : bodyL P f xs.length = xs := by
    apply List.ext_getElem?
    intro i
    unfold bodyL
    rw [List.getElem?_map]
    by_cases hi : i < xs.length
    · rw [List.getElem?_range hi, Option.map_some, h1 i hi, List.getD_eq_getElem?_getD, List.getElem?_eq_getElem hi]
      rfl
    · rw [List.getElem?_eq_none (by simpa using hi), List.getElem?_eq_none (by omega)]
      rfl
  unfold holdsF
  rw [e0, e1, e2, Int.toNat_natCast, e3, if_neg (by omega), if_pos rfl]
/-- The half that is written next holds what is new; the other one is as it was. -/
theorem kept_new {Q P : Nat → Int} {n m : Nat} (hm : m = n / 2) (n0 : 4 ≤ n) (n1 : n ≤ 32768) (wf : ∀ i, 0 ≤ Q i ∧ Q i ≤ 255) {xs : List Int} (hb : ∀ x ∈ xs, 0 ≤ x ∧ x ≤ 255) (hl2 : xs.length ≤ 8 * (m - 1)) (f : Nat) (hf : f = nextF Q n)
    (p2 : ∀ j, j < f * 8 ∨ (f + m) * 8 ≤ j → P j = Q j) (p3 : ∀ j, j < xs.length → P ((f + 1) * 8 + j) = xs.getD j 0) (p4 : ∀ r, r < 8 → P (f * 8 + r) = headB (nxt (keptF Q n).2.1) xs r) :
    (keptF P n).1 = xs ∧ (keptF P n).2.1 = nxt (keptF Q n).2.1 := by
  have hm1 : 1 ≤ m := by omega
  have hm3 : m ≤ 32768 := by omega
  obtain ⟨⟨la, na⟩, hA⟩ : ∃ r, r = holdsF Q 0 m := ⟨_, rfl⟩
  obtain ⟨⟨lb, nb⟩, hB⟩ : ∃ r, r = holdsF Q m m := ⟨_, rfl⟩
  have ca := holdsF_cnt Q 0 m wf
  have cb := holdsF_cnt Q m m wf
  rw [← hA] at ca
  rw [← hB] at cb
  have hk : keptF Q n = if 0 < nb ∧ (na = 0 ∨ nb = nxt na) then (lb, nb, 1) else (la, na, 0) := by
    unfold keptF
    rw [← hm, ← hA, ← hB]
  by_cases hc : 0 < nb ∧ (na = 0 ∨ nb = nxt na)
  · rw [if_pos hc] at hk
    have hnx := nxt_range (n := nb) (by omega) (by simp only at cb; omega)
    obtain rfl : f = 0 := by rw [hf]; unfold nextF; rw [hk]; simp
    rw [hk] at p4 ⊢
    have hPa : holdsF P 0 m = (xs, nxt nb) := holdsF_of hnx.1 hnx.2 hm3 hl2 hm1 hb p3 p4
    have hPb : holdsF P m m = (lb, nb) := by rw [hB]; exact holdsF_congr hm1 (fun j h1 h2 => p2 j (by omega))
    have hne : ¬ (0 < nb ∧ (nxt nb = 0 ∨ nb = nxt (nxt nb))) := by
      rintro ⟨_, h1 | h1⟩
      · omega
      · unfold nxt at h1
        simp only at cb
        split at h1 <;> split at h1 <;> omega
    have hk' : keptF P n = (xs, nxt nb, 0) := by
      unfold keptF
      rw [← hm, hPa, hPb]
      simp only
      rw [if_neg hne]
    rw [hk']
    exact ⟨rfl, rfl⟩
  · rw [if_neg hc] at hk
    by_cases hz : 0 < na
    · have hnx := nxt_range (n := na) (by omega) (by simp only at ca; omega)
      obtain rfl : f = m := by rw [hf]; unfold nextF; rw [hk, if_pos ⟨hz, rfl⟩, hm]
      rw [hk] at p4 ⊢
      have hPb : holdsF P f f = (xs, nxt na) := holdsF_of hnx.1 hnx.2 hm3 hl2 hm1 hb p3 p4
      have hPa : holdsF P 0 f = (la, na) := by rw [hA]; exact holdsF_congr hm1 (fun j h1 h2 => p2 j (by omega))
      have hk' : keptF P n = (xs, nxt na, 1) := by
        unfold keptF
        rw [← hm, hPa, hPb]
        simp only
        rw [if_pos ⟨by omega, .inr trivial⟩]
      rw [hk']
      exact ⟨rfl, rfl⟩
    · have hna : na = 0 := by simp only at ca; omega
      have hnb : nb = 0 := by
        simp only at cb
        rcases Int.lt_or_le 0 nb with h1 | h1
        · exact absurd ⟨h1, .inl hna⟩ hc
        · omega
      subst hna hnb
      obtain rfl : f = 0 := by rw [hf]; unfold nextF; rw [hk]; simp
      rw [hk] at p4 ⊢
      have hPa : holdsF P 0 m = (xs, nxt 0) := holdsF_of (by decide) (by decide) hm3 hl2 hm1 hb p3 p4
      have hPb : holdsF P m m = (lb, 0) := by rw [hB]; exact holdsF_congr hm1 (fun j h1 h2 => p2 j (by omega))
      have hk' : keptF P n = (xs, nxt 0, 0) := by
        unfold keptF
        rw [← hm, hPa, hPb]
        simp only
        rw [if_neg (fun h => by have := h.1; omega)]
      rw [hk']
      exact ⟨rfl, rfl⟩
theorem holdsF_none {P : Nat → Int} {f m : Nat} (h0 : P (f * 8) = 0) (h1 : P (f * 8 + 1) = 0) : holdsF P f m = ([], 0) := by
  unfold holdsF
  rw [if_pos (.inl (by unfold hCnt; rw [h0, h1]; rfl))]
theorem holdsF_zero {P : Nat → Int} {f m : Nat} (h : (holdsF P f m).2 = 0) : holdsF P f m = ([], 0) := by
  unfold holdsF at h ⊢
  by_cases hb : hCnt P f = 0 ∨ 8 * ((m : Int) - 1) < hLen P f
  · rw [if_pos hb]
  · rw [if_neg hb] at h ⊢
    split at h
    · exact absurd h (fun e => hb (.inl e))
    · rename_i hne
      rw [if_neg hne]
/-- The half that is written next has no head; the other one is as it was: what was kept is kept. -/
theorem kept_old {Q P : Nat → Int} {n m : Nat} (hm : m = n / 2) (n0 : 4 ≤ n) (wf : ∀ i, 0 ≤ Q i ∧ Q i ≤ 255) (f : Nat) (hf : f = nextF Q n)
    (p2 : ∀ j, j < f * 8 ∨ (f + m) * 8 ≤ j → P j = Q j) (p0 : P (f * 8) = 0) (p1 : P (f * 8 + 1) = 0) : (keptF P n).1 = (keptF Q n).1 ∧ (keptF P n).2.1 = (keptF Q n).2.1 := by
  have hm1 : 1 ≤ m := by omega
  obtain ⟨⟨la, na⟩, hA⟩ : ∃ r, r = holdsF Q 0 m := ⟨_, rfl⟩
  obtain ⟨⟨lb, nb⟩, hB⟩ : ∃ r, r = holdsF Q m m := ⟨_, rfl⟩
  have ca := holdsF_cnt Q 0 m wf
  have cb := holdsF_cnt Q m m wf
  rw [← hA] at ca
  rw [← hB] at cb
  have hk : keptF Q n = if 0 < nb ∧ (na = 0 ∨ nb = nxt na) then (lb, nb, 1) else (la, na, 0) := by
    unfold keptF
    rw [← hm, ← hA, ← hB]
  by_cases hc : 0 < nb ∧ (na = 0 ∨ nb = nxt na)
  · rw [if_pos hc] at hk
    obtain rfl : f = 0 := by rw [hf]; unfold nextF; rw [hk]; simp
    have hPa : holdsF P 0 m = ([], 0) := holdsF_none p0 p1
    have hPb : holdsF P m m = (lb, nb) := by rw [hB]; exact holdsF_congr hm1 (fun j h1 h2 => p2 j (by omega))
    have hk' : keptF P n = (lb, nb, 1) := by
      unfold keptF
      rw [← hm, hPa, hPb]
      simp only
      rw [if_pos ⟨hc.1, .inl trivial⟩]
    rw [hk', hk]
    exact ⟨rfl, rfl⟩
  · rw [if_neg hc] at hk
    by_cases hz : 0 < na
    · obtain rfl : f = m := by rw [hf]; unfold nextF; rw [hk, if_pos ⟨hz, rfl⟩, hm]
      have hPb : holdsF P f f = ([], 0) := holdsF_none p0 p1
      have hPa : holdsF P 0 f = (la, na) := by rw [hA]; exact holdsF_congr hm1 (fun j h1 h2 => p2 j (by omega))
      have hk' : keptF P n = (la, na, 0) := by
        unfold keptF
        rw [← hm, hPa, hPb]
        simp
      rw [hk', hk]
      exact ⟨rfl, rfl⟩
    · have hna : na = 0 := by simp only at ca; omega
      have hnb : nb = 0 := by
        simp only at cb
        rcases Int.lt_or_le 0 nb with h1 | h1
        · exact absurd ⟨h1, .inl hna⟩ hc
        · omega
      subst hna hnb
      obtain rfl : f = 0 := by rw [hf]; unfold nextF; rw [hk]; simp
      have hla : la = [] := by
        have := holdsF_zero (P := Q) (f := 0) (m := m) (by rw [← hA])
        rw [← hA] at this
        exact (Prod.mk.injEq _ _ _ _ ▸ this).1
      have hPa : holdsF P 0 m = ([], 0) := holdsF_none p0 p1
      have hPb : holdsF P m m = (lb, 0) := by rw [hB]; exact holdsF_congr hm1 (fun j h1 h2 => p2 j (by omega))
      have hk' : keptF P n = ([], 0, 0) := by
        unfold keptF
        rw [← hm, hPa, hPb]
        simp
      rw [hk', hk, hla]
      exact ⟨rfl, rfl⟩
theorem saveF_puts {c : Ch} {xs : List Int} (hd : c.dead = false) (hl : (xs.length : Int) ≤ 8 * ((c.n : Int) / 2 - 1)) {r : Bool} {c2 : Ch} (h : putsF c (nextF c.P c.n) (nxt (keptF c.P c.n).2.1) xs = (r, c2)) : saveF c xs = (if r then 0 else 6, c2) := by
  unfold saveF
  rw [if_neg (by omega), hd, h]
  rfl
theorem nextF_fits {P : Nat → Int} {n m : Nat} (hm : m = n / 2) : nextF P n + m ≤ n := by
  unfold nextF
  split <;> omega
/-- Whatever is kept, what is saved on a living chip is kept instead. -/
theorem save_live {c : Ch} (h : Live c) (n0 : 4 ≤ c.n) (n1 : c.n ≤ 32768) (wf : ∀ i, 0 ≤ c.P i ∧ c.P i ≤ 255) (xs : List Int) (hb : ∀ x ∈ xs, 0 ≤ x ∧ x ≤ 255) (hl : (xs.length : Int) ≤ 8 * ((c.n : Int) / 2 - 1)) :
    ∃ P, saveF c xs = (0, { c with P := P }) ∧ (keptF P c.n).1 = xs ∧ (keptF P c.n).2.1 = nxt (keptF c.P c.n).2.1 := by
  obtain ⟨m, hm⟩ : ∃ m, m = c.n / 2 := ⟨_, rfl⟩
  obtain ⟨P, p1, p2, p3, p4⟩ := putsF_live h (nextF c.P c.n) m (by omega) (nextF_fits hm) (nxt (keptF c.P c.n).2.1) xs (by omega)
  exact ⟨P, saveF_puts h.1 hl p1, kept_new hm n0 n1 wf hb (by omega) _ rfl p2 p3 p4⟩
end Go.Proofs.Ytgegpeicpbhnkaa.Nvm
