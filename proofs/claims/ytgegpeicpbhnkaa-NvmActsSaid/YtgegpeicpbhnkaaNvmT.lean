/- What the document's chip keeps. -/
import Derived.Test.YtgegpeicpbhnkaaNvmO
import Derived.Test.YtgegpeicpbhnkaaNvmI
namespace Go.Proofs.Ytgegpeicpbhnkaa.Nvm
open Go.RowKit Go.Proofs.Ytgegpeicpbhnkaa.Own Go.Proofs.Ytgegpeicpbhnkaa.Crc
/-- What the document keeps, its counter, in which half. -/
def dkeptF (P : Nat → Int) (n : Nat) : List Int × Int × Int :=
  if 0 < (holdsF P 0 (n / 2)).2 ∧ ((holdsF P (n / 2) (n / 2)).2 = 0 ∨ (holdsF P (n / 2) (n / 2)).2 ≠ nxt (holdsF P 0 (n / 2)).2) then ((holdsF P 0 (n / 2)).1, (holdsF P 0 (n / 2)).2, 0)
  else ((holdsF P (n / 2) (n / 2)).1, (holdsF P (n / 2) (n / 2)).2, 1)
theorem holdsF_zeroT {P : Nat → Int} {f m : Nat} (h : (holdsF P f m).2 = 0) : (holdsF P f m).1 = [] := by
  unfold holdsF at h ⊢
  split
  · rfl
  · rename_i hb
    rw [if_neg hb] at h
    split
    · rename_i hc
      rw [if_pos hc] at h
      exact absurd (.inl h) hb
    · rfl
/-- It keeps what the program keeps. -/
theorem dkept_kept (P : Nat → Int) (n : Nat) (h : ∀ i, 0 ≤ P i ∧ P i ≤ 255) :
    (dkeptF P n).1 = (keptF P n).1 ∧ (dkeptF P n).2.1 = (keptF P n).2.1 ∧ ((0 < (dkeptF P n).2.1 ∧ (dkeptF P n).2.2 = 0) ↔ (0 < (keptF P n).2.1 ∧ (keptF P n).2.2 = 0)) := by
  have ha := (holdsF_cnt P 0 (n / 2) h).1
  have hb := (holdsF_cnt P (n / 2) (n / 2) h).1
  unfold dkeptF keptF
  simp only
  by_cases a0 : (holdsF P 0 (n / 2)).2 = 0
  · by_cases b0 : (holdsF P (n / 2) (n / 2)).2 = 0
    · rw [if_neg (by omega), if_neg (by omega)]
      exact ⟨by rw [holdsF_zeroT a0, holdsF_zeroT b0], by rw [a0, b0], by simp only; omega⟩
    · rw [if_neg (by omega), if_pos ⟨by omega, .inl a0⟩]
      exact ⟨rfl, rfl, Iff.rfl⟩
  · by_cases hc : (holdsF P (n / 2) (n / 2)).2 = 0 ∨ (holdsF P (n / 2) (n / 2)).2 ≠ nxt (holdsF P 0 (n / 2)).2
    · rw [if_pos ⟨by omega, hc⟩, if_neg (fun k => by
        rcases hc with h0 | h0
        · have := k.1; omega
        · exact k.2.elim a0 h0)]
      exact ⟨rfl, rfl, Iff.rfl⟩
    · rw [if_neg (fun k => hc k.2), if_pos ⟨by
        have : ¬ (holdsF P (n / 2) (n / 2)).2 = 0 := fun e => hc (.inl e)
        omega, .inr (Decidable.byContradiction fun e => hc (.inr e))⟩]
      exact ⟨rfl, rfl, Iff.rfl⟩
theorem DNext_any (k : Int) (k0 : 0 ≤ k) (k1 : k ≤ 65535) (w : World) : Calls Try.prog 37 #[.int .i64 k] w fun e w' => e = .returned (.int .i64 (nxt k)) ∧ w = w' := by
  obtain ⟨n, rfl⟩ : ∃ n : Nat, k = n := ⟨k.toNat, by omega⟩
  refine (DNext_is n w (by omega)).mono ?_
  rintro e w' ⟨rfl, rfl⟩
  have : ((n % 65535 + 1 : Nat) : Int) = nxt n := by
    unfold nxt
    split <;> omega
  exact ⟨by rw [this], rfl⟩
set_option maxRecDepth 100000 in
set_option maxHeartbeats 8000000 in
theorem DKept_any {w : World} {g : Nat} {c : Ch} (h : IsDc w g c) : Calls Try.prog 28 #[.pointer (some ⟨g, 0, none⟩)] w (KeptPost w (dkeptF c.P c.n)) := by
  have H := Lib.hid h
  obtain ⟨m, hm⟩ : ∃ m, m = c.n / 2 := ⟨_, rfl⟩
  obtain ⟨⟨la, na⟩, hra⟩ : ∃ r, r = holdsF c.P 0 m := ⟨_, rfl⟩
  obtain ⟨⟨lb, nb⟩, hrb⟩ : ∃ r, r = holdsF c.P m m := ⟨_, rfl⟩
  have hca := holdsF_cnt c.P 0 m h.wf
  have hcb := holdsF_cnt c.P m m h.wf
  rw [← hra] at hca
  rw [← hrb] at hcb
  have HA := Lib.hid hra
  have HB := Lib.hid hrb
  have HM := Lib.hid hm
  obtain ⟨a0, a1⟩ : 0 ≤ na ∧ na ≤ 65535 := hca
  obtain ⟨b0, b1⟩ : 0 ≤ nb ∧ nb ≤ 65535 := hcb
  clear h hra hrb hm
  go_enter Try.func28, Try.ntmps28
  go_wp2_with fail
  refine (DHolds_0 H.out m HM.out).mono ?_
  rintro e w3 hp
  rw [← HA.out] at hp
  obtain ⟨A3, c3, rfl, hr, hl, hn, hk, hf⟩ := hp
  have HR3 := Lib.hid (And.intro hr (And.intro hl (And.intro hn hf)))
  have H3 := Lib.hid (IsDc.keep (S := Own.Zero) H.out hk id id)
  have HK3 := Lib.hid hk
  clear hr hl hn hk hf
  go_wp2_with fail
  refine (DHolds_1 H3.out m HM.out).mono ?_
  rintro e w4 hp
  rw [← HB.out] at hp
  obtain ⟨A4, c4, rfl, hr, hl, hn, hk, hf⟩ := hp
  have HR4 := Lib.hid (And.intro hr (And.intro hl (And.intro hn hf)))
  have HR3b := Lib.hid (HR3.out.1.keep hk (fun _ _ _ => id))
  have HK4 := Lib.hid (HK3.out.trans hk (fun i hi => hi.elim))
  have HS : Hid (w.heap.size ≤ w3.heap.size) := Lib.hid HK3.out.size
  clear hr hl hn hk hf
  have HF : Hid (dkeptF c.P c.n = if 0 < na ∧ (nb = 0 ∨ nb ≠ nxt na) then (la, na, 0) else (lb, nb, 1)) := Lib.hid (by
    unfold dkeptF
    rw [← HM.out, ← HA.out, ← HB.out])
  by_cases hb : 0 < na
  · by_cases ha : nb = 0
    · have HE : Hid (dkeptF c.P c.n = (la, na, 0)) := Lib.hid (HF.out.trans (if_pos ⟨hb, .inl ha⟩))
      have t1 : (nb == 0) = true := by simp [ha]
      clear ha
      go_wp2_with fail
      go_ret3
      rw [HE.out]
      exact ⟨A3, c3, rfl, HR3b.out, HR3.out.2.1, HR3.out.2.2.1, HK4.out, HR3.out.2.2.2⟩
    · have t1 : (nb == 0) = false := by simp [ha]
      by_cases hx : nb = nxt na
      · have HE : Hid (dkeptF c.P c.n = (lb, nb, 1)) := Lib.hid (HF.out.trans (if_neg (fun h => h.2.elim ha (fun k => k hx))))
        have t2 : (nb != nxt na) = false := by simp [hx]
        clear ha hx
        go_wp2_with ((with_reducible refine (DNext_any na a0 a1 _).mono ?_); rintro e w' ⟨rfl, rfl⟩)
        go_ret3
        rw [HE.out]
        exact ⟨A4, c4, rfl, HR4.out.1, HR4.out.2.1, HR4.out.2.2.1, HK4.out, fun a h => Nat.le_trans HS.out (HR4.out.2.2.2 a h)⟩
      · have HE : Hid (dkeptF c.P c.n = (la, na, 0)) := Lib.hid (HF.out.trans (if_pos ⟨hb, .inr hx⟩))
        have t2 : (nb != nxt na) = true := by simp [hx]
        clear ha hx
        go_wp2_with ((with_reducible refine (DNext_any na a0 a1 _).mono ?_); rintro e w' ⟨rfl, rfl⟩)
        go_ret3
        rw [HE.out]
        exact ⟨A3, c3, rfl, HR3b.out, HR3.out.2.1, HR3.out.2.2.1, HK4.out, HR3.out.2.2.2⟩
  · have HE : Hid (dkeptF c.P c.n = (lb, nb, 1)) := Lib.hid (HF.out.trans (if_neg (fun h => hb h.1)))
    have t1 : decide (0 < na) = false := decide_eq_false hb
    clear hb
    go_wp2_with fail
    go_ret3
    rw [HE.out]
    exact ⟨A4, c4, rfl, HR4.out.1, HR4.out.2.1, HR4.out.2.2.1, HK4.out, fun a h => Nat.le_trans HS.out (HR4.out.2.2.2 a h)⟩
end Go.Proofs.Ytgegpeicpbhnkaa.Nvm
