/- What is kept; what Load comes to. -/
import Derived.Test.YtgegpeicpbhnkaaNvmE
namespace Go.Proofs.Ytgegpeicpbhnkaa.Nvm
open Go.RowKit Go.Proofs.Ytgegpeicpbhnkaa.Own Go.Proofs.Ytgegpeicpbhnkaa.Crc
/-- What is kept, its counter, in which half. -/
def keptF (P : Nat → Int) (n : Nat) : List Int × Int × Int :=
  let a := holdsF P 0 (n / 2)
  let b := holdsF P (n / 2) (n / 2)
  if 0 < b.2 ∧ (a.2 = 0 ∨ b.2 = nxt a.2) then (b.1, b.2, 1) else (a.1, a.2, 0)
theorem holdsF_cnt (P : Nat → Int) (f m : Nat) (h : ∀ i, 0 ≤ P i ∧ P i ≤ 255) : 0 ≤ (holdsF P f m).2 ∧ (holdsF P f m).2 ≤ 65535 := by
  unfold holdsF
  have h0 := h (f * 8)
  have h1 := h (f * 8 + 1)
  split
  · simp
  · split
    · unfold hCnt
      simp only
      omega
    · simp
def KeptPost (w : World) (r : List Int × Int × Int) (e : Ending) (w' : World) : Prop := ∃ A c, e = .returned (.tuple #[.slice A r.1.length c, .int .i64 r.2.1, .int .i64 r.2.2]) ∧ Row w' A (ints .u8 r.1) ∧ r.1.length ≤ c ∧ (A = none → c = 0) ∧ Keep Zero w w' ∧ ∀ a, A = some a → w.heap.size ≤ a.block
set_option maxRecDepth 100000 in
set_option maxHeartbeats 8000000 in
theorem kept_any {w : World} {g : Nat} {c : Ch} (h : IsCh w g c) : Calls Try.prog 20 #[.pointer (some ⟨g, 0, none⟩)] w (KeptPost w (keptF c.P c.n)) := by
  have n0 := h.n0
  have n1 := h.n1
  have H := Lib.hid h
  obtain ⟨m, hm⟩ : ∃ m, m = c.n / 2 := ⟨_, rfl⟩
  obtain ⟨⟨la, na⟩, hra⟩ : ∃ r, r = holdsF c.P 0 m := ⟨_, rfl⟩
  obtain ⟨⟨lb, nb⟩, hrb⟩ : ∃ r, r = holdsF c.P m m := ⟨_, rfl⟩
  have hca := holdsF_cnt c.P 0 m h.wf
  have hcb := holdsF_cnt c.P m m h.wf
  rw [← hra] at hca
  rw [← hrb] at hcb
  have HA := Lib.hid hra
  have HB := Lib.hid hrb
  have hm1 : 1 ≤ m := by omega
  have hm2 : m + m ≤ c.n := by omega
  have HM := Lib.hid hm
  obtain ⟨a0, a1⟩ : 0 ≤ na ∧ na ≤ 65535 := hca
  obtain ⟨b0, b1⟩ : 0 ≤ nb ∧ nb ≤ 65535 := hcb
  clear h hra hrb hm
  go_enter Try.func20, Try.ntmps20
  go_wp2_with fail
  refine (halves_any H.out).mono ?_
  rintro e w1 ⟨rfl, hk⟩
  rw [← HM.out]
  have HK1 := Lib.hid hk
  have H1 := Lib.hid (H.out.keep hk id id)
  clear hk
  go_wp2_with fail
  have HB1 : Hid (Blk (w1.alloc (.cells #[.pointer (some ⟨g, 0, none⟩), .int .i64 0, .int .i64 m, .pointer (some ⟨g, 0, none⟩), .int .i64 m, .int .i64 m] 56)) w1.heap.size #[.pointer (some ⟨g, 0, none⟩), .int .i64 0, .int .i64 m, .pointer (some ⟨g, 0, none⟩), .int .i64 m, .int .i64 m] 56) := Lib.hid (Blk.new _ _ _)
  have H2 := Lib.hid (H1.out.keep ((Keep.refl Zero w1).alloc (.cells #[.pointer (some ⟨g, 0, none⟩), .int .i64 0, .int .i64 m, .pointer (some ⟨g, 0, none⟩), .int .i64 m, .int .i64 m] 56)) id id)
  have HK2 := Lib.hid (HK1.out.alloc (.cells #[.pointer (some ⟨g, 0, none⟩), .int .i64 0, .int .i64 m, .pointer (some ⟨g, 0, none⟩), .int .i64 m, .int .i64 m] 56))
  refine (holds_any H2.out 0 m hm1 (by omega)).mono ?_
  rintro e w3 hp
  rw [← HA.out] at hp
  obtain ⟨A3, c3, rfl, hr, hl, hn, hk, hf⟩ := hp
  have HR3 := Lib.hid (And.intro hr (And.intro hl (And.intro hn hf)))
  have HB3 := Lib.hid (Blk.keep (S := Own.Zero) HB1.out hk id)
  have H3 := Lib.hid (IsCh.keep (S := Own.Zero) H2.out hk id id)
  have HK3 := Lib.hid (HK2.out.trans hk (fun i hi => hi.elim))
  clear hr hl hn hk hf
  have d3 := HB3.out.cell 3
  have d4 := HB3.out.cell 4
  have d5 := HB3.out.cell 5
  go_wp2_with fail
  refine (holds_any H3.out m m hm1 hm2).mono ?_
  rintro e w4 hp
  rw [← HB.out] at hp
  obtain ⟨A4, c4, rfl, hr, hl, hn, hk, hf⟩ := hp
  have HR4 := Lib.hid (And.intro hr (And.intro hl (And.intro hn hf)))
  have HR3b := Lib.hid (HR3.out.1.keep hk (fun _ _ _ => id))
  have HK4 := Lib.hid (HK3.out.trans hk (fun i hi => hi.elim))
  have HS : Hid (w.heap.size ≤ w3.heap.size ∧ w.heap.size ≤ (w1.alloc (.cells #[.pointer (some ⟨g, 0, none⟩), .int .i64 0, .int .i64 m, .pointer (some ⟨g, 0, none⟩), .int .i64 m, .int .i64 m] 56)).heap.size) := Lib.hid ⟨HK3.out.size, HK2.out.size⟩
  clear hr hl hn hk hf d3 d4 d5
  have HF : Hid (keptF c.P c.n = if 0 < nb ∧ (na = 0 ∨ nb = nxt na) then (lb, nb, 1) else (la, na, 0)) := Lib.hid (by
    unfold keptF
    rw [← HM.out, ← HA.out, ← HB.out])
  by_cases hb : 0 < nb
  · by_cases ha : na = 0
    · have HE : Hid (keptF c.P c.n = (lb, nb, 1)) := Lib.hid (HF.out.trans (if_pos ⟨hb, .inl ha⟩))
      have t1 : (na == 0) = true := by simp [ha]
      clear ha
      go_wp2_with fail
      go_ret3
      rw [HE.out]
      exact ⟨A4, c4, rfl, HR4.out.1, HR4.out.2.1, HR4.out.2.2.1, HK4.out, fun a h => Nat.le_trans HS.out.1 (HR4.out.2.2.2 a h)⟩
    · have t1 : (na == 0) = false := by simp [ha]
      by_cases hx : nb = nxt na
      · have HE : Hid (keptF c.P c.n = (lb, nb, 1)) := Lib.hid (HF.out.trans (if_pos ⟨hb, .inr hx⟩))
        have t2 : (nb == nxt na) = true := by simp [hx]
        clear ha hx
        go_wp2_with ((with_reducible refine (next_any na a0 a1 _).mono ?_); rintro e w' ⟨rfl, rfl⟩)
        go_ret3
        rw [HE.out]
        exact ⟨A4, c4, rfl, HR4.out.1, HR4.out.2.1, HR4.out.2.2.1, HK4.out, fun a h => Nat.le_trans HS.out.1 (HR4.out.2.2.2 a h)⟩
      · have HE : Hid (keptF c.P c.n = (la, na, 0)) := Lib.hid (HF.out.trans (if_neg (fun h => h.2.elim ha hx)))
        have t2 : (nb == nxt na) = false := by simp [hx]
        clear ha hx
        go_wp2_with ((with_reducible refine (next_any na a0 a1 _).mono ?_); rintro e w' ⟨rfl, rfl⟩)
        go_ret3
        rw [HE.out]
        exact ⟨A3, c3, rfl, HR3b.out, HR3.out.2.1, HR3.out.2.2.1, HK4.out, fun a h => Nat.le_trans HS.out.2 (HR3.out.2.2.2 a h)⟩
  · have HE : Hid (keptF c.P c.n = (la, na, 0)) := Lib.hid (HF.out.trans (if_neg (fun h => hb h.1)))
    have t1 : decide (0 < nb) = false := decide_eq_false hb
    clear hb
    go_wp2_with fail
    go_ret3
    rw [HE.out]
    exact ⟨A3, c3, rfl, HR3b.out, HR3.out.2.1, HR3.out.2.2.1, HK4.out, fun a h => Nat.le_trans HS.out.2 (HR3.out.2.2.2 a h)⟩
def LoadPost (w : World) (r : List Int × Int × Int) (e : Ending) (w' : World) : Prop := ∃ A c, e = .returned (.tuple #[.slice A r.1.length c, .bool (decide (0 < r.2.1))]) ∧ Row w' A (ints .u8 r.1) ∧ r.1.length ≤ c ∧ (A = none → c = 0) ∧ Keep Zero w w' ∧ ∀ a, A = some a → w.heap.size ≤ a.block
theorem Load_any {w : World} {g : Nat} {c : Ch} (h : IsCh w g c) : Calls Try.prog 10 #[.pointer (some ⟨g, 0, none⟩)] w (LoadPost w (keptF c.P c.n)) := by
  have H := Lib.hid h
  clear h
  obtain ⟨⟨l, k, m⟩, hr⟩ : ∃ r, r = keptF c.P c.n := ⟨_, rfl⟩
  have HR := Lib.hid hr
  rw [← hr]
  clear hr
  go_enter Try.func10, Try.ntmps10
  go_wp2_with fail
  refine (kept_any H.out).mono ?_
  rintro e w1 hp
  rw [← HR.out] at hp
  obtain ⟨A, c1, rfl, h1, h2, h3, h4, h5⟩ := hp
  have P := Lib.hid (And.intro h1 (And.intro h2 (And.intro h3 (And.intro h4 h5))))
  clear h1 h2 h3 h4 h5
  go_wp2_with fail
  go_ret2
  exact ⟨A, c1, rfl, P.out⟩
end Go.Proofs.Ytgegpeicpbhnkaa.Nvm
