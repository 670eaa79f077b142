/- Plain law: numbers are given. -/
import Derived.Test.YtcmfcnljdeddfaaNumH
namespace Go.Proofs.Ytcmfcnljdeddfaa.Num
open Go.RowKit Go.Proofs.Ytcmfcnljdeddfaa.Own Go.Proofs.Ytcmfcnljdeddfaa.Crc
/-- The addresses are different ones. -/
def Apart (n : Nat) (σ : Nat → Sl) : Prop := ∀ i k, i < n → k < n → (∀ m, m < 4 → (σ i).A m = (σ k).A m) → i = k
/-- Those that have a number have one of the first ones, each its own. -/
structure Given (n : Nat) (σ : Nat → Sl) (ids : List Int) (j : Nat) : Prop where
  waits : Waits n σ
  num : ∀ i, i < n → (σ i).free = true ∨ ((σ i).uid ≠ 0 ∧ (σ i).uid = (σ i).pid ∧ (σ i).uid ∈ ids.take j)
  dist : ∀ i k, i < n → k < n → (σ i).uid ≠ 0 → (σ i).uid = (σ k).uid → i = k
theorem free_iff (s : Sl) : s.free = true ↔ s.uid = 0 ∧ s.pid = 0 := by
  unfold Sl.free
  simp
theorem free_of {s t : Sl} (h1 : s.pid = t.pid) (h2 : s.uid = t.uid) : s.free = t.free := by
  unfold Sl.free
  rw [h1, h2]
def cnt (σ : Nat → Sl) : Nat → Nat
  | 0 => 0
  | n + 1 => cnt σ n + if (σ n).free then 1 else 0
theorem cnt_congr {σ τ : Nat → Sl} : ∀ (n : Nat) (_ : ∀ i, i < n → (σ i).free = (τ i).free), cnt σ n = cnt τ n
  | 0, _ => rfl
  | n + 1, h => by
    unfold cnt
    rw [cnt_congr n (fun i hi => h i (by omega)), h n (Nat.lt_succ_self n)]
theorem cnt_less {σ τ : Nat → Sl} {j : Nat} : ∀ (n : Nat) (_ : j < n) (_ : ∀ i, i < n → i ≠ j → (σ i).free = (τ i).free) (_ : (σ j).free = false) (_ : (τ j).free = true), cnt σ n + 1 = cnt τ n
  | n + 1, hj, h, h1, h2 => by
    unfold cnt
    by_cases e : j = n
    · subst e
      rw [cnt_congr j (fun i hi => h i (by omega) (by omega)), h1, h2]
      simp
    · have ih := cnt_less n (by omega) (fun i hi hne => h i (by omega) hne) h1 h2
      rw [h n (Nat.lt_succ_self n) (fun k => e k.symm)]
      omega
theorem cnt_le (σ : Nat → Sl) : ∀ n : Nat, cnt σ n ≤ n
  | 0 => Nat.le_refl _
  | n + 1 => by
    have := cnt_le σ n
    unfold cnt
    split <;> omega
theorem cnt_pos {σ : Nat → Sl} {j : Nat} : ∀ (n : Nat) (_ : j < n) (_ : (σ j).free = true), 0 < cnt σ n
  | n + 1, hj, h => by
    unfold cnt
    by_cases e : j = n
    · subst e
      rw [h]
      simp
    · have := cnt_pos n (by omega) h
      omega
theorem Given.of_same {n : Nat} {σ τ : Nat → Sl} {ids : List Int} {j : Nat} (h : Given n σ ids j) (hs : Same n σ τ) (hw : Waits n τ) : Given n τ ids j := by
  refine ⟨hw, fun i hi => ?_, fun i k hi hk => ?_⟩
  · obtain ⟨_, hp, hu⟩ := hs i hi
    rw [free_of hp hu, hp, hu]
    exact h.num i hi
  · rw [(hs i hi).2.2, (hs k hk).2.2]
    exact h.dist i k hi hk
theorem take_17 {x : Int} (s : Sl) (h1 : 1 ≤ x) (h2 : x ≤ 127) : takeF (ordF 17 x) s = if s.mode = 1 then (true, { s with pid := x }) else (false, s) := by
  unfold takeF
  rw [if_neg (by simp [ordF]), if_pos (show (ordF 17 x).c = 17 from rfl)]
  simp only [ordF]
  rw [show x % 256 = x by omega]
theorem take_4 (s : Sl) : takeF (ordF 4 0) s = (false, s.wait) := by
  unfold takeF
  rw [if_pos (show (ordF 4 0).c = 4 from rfl)]
/-- One that was found is given a number. -/
theorem gives {n : Nat} {σ σ1 : Nat → Sl} {K : Nat → Int} {ids : List Int} {j : Nat} {x : Int} (h : Given n σ ids j) (ha : Apart n σ) (ho : OneEnd n σ σ1 K true) (hg : Good ids) (hx : ids[j]? = some x) :
    Given n (after (ordF 4 0) (after (ordF 17 x) σ1)) ids (j + 1) ∧ (∀ i, i < n → (after (ordF 4 0) (after (ordF 17 x) σ1) i).A = (σ i).A) ∧ cnt (after (ordF 4 0) (after (ordF 17 x) σ1)) n + 1 = cnt σ n := by
  obtain ⟨hs, ⟨hf, _⟩ | ⟨_, hall, i0, hi0, hm0⟩⟩ := ho
  · cases hf
  obtain ⟨x1, x2⟩ := hg.2 x (List.mem_of_getElem? hx)
  have hA : ∀ i, (after (ordF 4 0) (after (ordF 17 x) σ1) i).A = (σ1 i).A := fun i => (takeF_A _ _).trans (takeF_A _ _)
  have huniq : ∀ i, i < n → (σ1 i).mode = 1 → i = i0 := fun i hi hm => by
    rcases hall i hi with h0 | ⟨_, _, hk⟩
    · rw [hm] at h0
      cases h0
    · rcases hall i0 hi0 with h0 | ⟨_, _, hk0⟩
      · rw [hm0] at h0
        cases h0
      · exact ha i i0 hi hi0 (fun m hm4 => by rw [← (hs i hi).1, ← (hs i0 hi0).1, hk m hm4, hk0 m hm4])
  obtain ⟨hf0, _⟩ : (σ1 i0).free = true ∧ ∀ k, k < 4 → (σ1 i0).A k = K k := by
    rcases hall i0 hi0 with h0 | ⟨_, hk0⟩
    · rw [hm0] at h0
      cases h0
    · exact hk0
  obtain ⟨u0, p0⟩ := (free_iff _).1 hf0
  have e0 : after (ordF 4 0) (after (ordF 17 x) σ1) i0 = { σ1 i0 with mode := 0, pid := x, uid := x } := by
    unfold after
    rw [take_17 _ x1 x2, if_pos hm0, take_4]
    unfold Sl.wait
    simp [u0]
  have eo : ∀ i, i < n → i ≠ i0 → (after (ordF 4 0) (after (ordF 17 x) σ1) i).mode = 0 ∧ (after (ordF 4 0) (after (ordF 17 x) σ1) i).uid = (σ i).uid ∧ (after (ordF 4 0) (after (ordF 17 x) σ1) i).pid = (σ i).pid := fun i hi hne => by
    have hm : (σ1 i).mode ≠ 1 := fun k => hne (huniq i hi k)
    obtain ⟨_, hp, hu⟩ := hs i hi
    unfold after
    rw [take_17 _ x1 x2, if_neg hm, take_4]
    unfold Sl.wait
    refine ⟨rfl, ?_, hp⟩
    simp only [hp, hu]
    rcases h.num i hi with hf | ⟨hn, _, _⟩
    · obtain ⟨u, p⟩ := (free_iff _).1 hf
      simp [u, p]
    · rw [if_neg hn]
  have hnew : ∀ i, i < n → (σ i).uid ≠ x := fun i hi e => by
    rcases h.num i hi with hf | ⟨_, _, hm⟩
    · have := (free_iff _).1 hf
      omega
    · rw [e] at hm
      exact not_good hx (.inr (.inr hm)) hg
  have hmem : ∀ y, y ∈ ids.take j → y ∈ ids.take (j + 1) := fun y hy => by
    rw [List.take_add_one]
    exact List.mem_append_left _ hy
  refine ⟨⟨fun i hi => ?_, fun i hi => ?_, fun i k hi hk => ?_⟩, fun i hi => (hA i).trans (hs i hi).1, ?_⟩
  · by_cases e : i = i0
    · rw [e, e0]
    · exact (eo i hi e).1
  · by_cases e : i = i0
    · rw [e, e0]
      refine .inr ⟨by simp only; omega, rfl, ?_⟩
      rw [List.take_add_one, hx]
      simp
    · obtain ⟨_, hu, hp⟩ := eo i hi e
      rw [free_of hp hu, hp, hu]
      exact (h.num i hi).imp_right (fun q => ⟨q.1, q.2.1, hmem _ q.2.2⟩)
  · by_cases e : i = i0
    · by_cases e2 : k = i0
      · intros
        rw [e, e2]
      · rw [e, e0, (eo k hk e2).2.1]
        intro _ q
        exact absurd q.symm (hnew k hk)
    · by_cases e2 : k = i0
      · rw [e2, e0, (eo i hi e).2.1]
        intro _ q
        exact absurd q (hnew i hi)
      · rw [(eo i hi e).2.1, (eo k hk e2).2.1]
        exact h.dist i k hi hk
  · refine cnt_less n hi0 (fun i hi hne => free_of (eo i hi hne).2.2 (eo i hi hne).2.1) ?_ ?_
    · rw [e0]
      unfold Sl.free
      have : (x == 0) = false := by simp; omega
      simp [this]
    · rw [← free_of (hs i0 hi0).2.1 (hs i0 hi0).2.2]
      exact hf0
theorem Apart.of {n : Nat} {σ τ : Nat → Sl} (h : Apart n σ) (hA : ∀ i, i < n → (τ i).A = (σ i).A) : Apart n τ := fun i k hi hk hm => h i k hi hk (fun m hm4 => by rw [← hA i hi, ← hA k hk]; exact hm m hm4)
/-- The first question. -/
def askF : Fr := { ordF 81 0 with b5 := 128 }
theorem ask_any (n : Nat) (σ : Nat → Sl) (hw : Waits n σ) : (anyF askF σ n = true ↔ ∃ i, i < n ∧ (σ i).free = true) ∧ Same n σ (after askF σ) ∧ Waits n (after askF σ) := by
  have ht : ∀ i, takeF askF (σ i) = if (σ i).free then (true, { σ i with looks := 0 }) else (false, σ i) := fun i => by
    rw [takeF_81 rfl]
    unfold scanF
    rw [if_pos (show askF.b5 = 128 from rfl)]
  refine ⟨?_, fun i hi => ?_, fun i hi => ?_⟩
  · rw [anyF_iff]
    constructor
    · rintro ⟨i, hi, h⟩
      rw [ht] at h
      refine ⟨i, hi, ?_⟩
      rcases hf : (σ i).free
      · rw [hf] at h
        cases h
      · rfl
    · rintro ⟨i, hi, h⟩
      exact ⟨i, hi, by rw [ht, h]; rfl⟩
  · unfold after
    rw [ht]
    split <;> exact ⟨rfl, rfl, rfl⟩
  · unfold after
    rw [ht]
    split <;> exact hw i hi
end Go.Proofs.Ytcmfcnljdeddfaa.Num
