/- What a producer's Next comes to; both producers' ticks, on or off, under one relation. -/
import Derived.Test.YtmaajpkkdpaeeaaSyncF
namespace Go.Proofs.Ytmaajpkkdpaeeaa.Sync
open Go.RowKit Go.Proofs.Ytmaajpkkdpaeeaa.Own
theorem Next_on {w : World} {g : Nat} {p : Pr} (h : IsPr w g p) (ho : p.on = true) : Calls Try.prog 19 #[.pointer (some ⟨g, 0, none⟩)] w fun e w' => e = .returned (.tuple #[.int .u64 p.left, .bool true]) ∧ w = w' := by
  obtain ⟨c0, c1, c2, c3, c4, f0, f1, f2, f3, f4⟩ := h.facts
  rw [ho] at c2
  clear h ho
  go_enter Try.func19, Try.ntmps19
  go_wp2
  go_ret2
  exact ⟨rfl, rfl⟩
theorem Next_off {w : World} {g : Nat} {p : Pr} (h : IsPr w g p) (ho : p.on = false) : Calls Try.prog 19 #[.pointer (some ⟨g, 0, none⟩)] w fun e w' => e = .returned (.tuple #[.int .u64 0, .bool false]) ∧ w = w' := by
  obtain ⟨c0, c1, c2, c3, c4, f0, f1, f2, f3, f4⟩ := h.facts
  rw [ho] at c2
  clear h ho
  go_enter Try.func19, Try.ntmps19
  go_wp2
  go_ret2
  exact ⟨rfl, rfl⟩
/-- The two producers know the same. -/
structure TRel (T period ov : Int) (p : Pr) (r : Rp) : Prop where
  pp : p.period = period
  po : p.ov = ov
  rp : r.period = period
  ro : r.ov = ov
  on : r.on = p.on
  p1 : 1 ≤ period
  p2 : period ≤ 4294967296
  c : Cnt ov
  l0 : 0 ≤ p.left
  l1 : p.left ≤ period
  x0 : 0 ≤ p.next
  x1 : p.next ≤ 240
  w0 : 0 ≤ r.went
  w1 : r.went < period
  t0 : 0 ≤ r.told
  t1 : r.told ≤ T
  eq : p.on = true → 1 ≤ p.left ∧ p.left = period - r.went ∧ p.next = after r.told ov
theorem TRel.ok {T period ov : Int} {p : Pr} {r : Rp} (h : TRel T period ov p r) : p.ok := by
  obtain ⟨rfl, rfl, rp, ro, on, p1, p2, c, l0, l1, x0, x1, w0, w1, t0, t1, eq⟩ := h
  exact ⟨p1, p2, c, l0, l1, x0, x1, fun h => (eq h).1⟩
theorem TRel.rok {T period ov : Int} {p : Pr} {r : Rp} (h : TRel T period ov p r) : r.ok T := by
  obtain ⟨pp, po, rfl, rfl, on, p1, p2, c, l0, l1, x0, x1, w0, w1, t0, t1, eq⟩ := h
  exact ⟨p1, p2, c, w0, w1, t0, t1⟩
theorem TRel.more {T T' period ov : Int} {p : Pr} {r : Rp} (h : TRel T period ov p r) (hT : T ≤ T') : TRel T' period ov p r := by
  obtain ⟨pp, po, rp, ro, on, p1, p2, c, l0, l1, x0, x1, w0, w1, t0, t1, eq⟩ := h
  exact ⟨pp, po, rp, ro, on, p1, p2, c, l0, l1, x0, x1, w0, w1, t0, by omega, eq⟩
theorem TRel.start {T period ov : Int} {p : Pr} {r : Rp} (h : TRel T period ov p r) (hT : 0 ≤ T) (b : Bool) : TRel T period ov (p.start b) (if b && !r.on then { r with on := b, went := 0, told := 0 } else { r with on := b }) := by
  obtain ⟨pp, po, rp, ro, on, p1, p2, c, l0, l1, x0, x1, w0, w1, t0, t1, eq⟩ := h
  have ar := after_range (n := 0) c
  unfold Pr.start
  rw [on]
  cases hb : b && !p.on with
  | true =>
    obtain ⟨rfl, ho⟩ : b = true ∧ p.on = false := by simpa using hb
    simp only [if_true]
    exact ⟨pp, po, rp, ro, rfl, p1, p2, c, by simp only; omega, by simp only; omega, by simp only [po]; exact ar.1, by simp only [po]; exact ar.2, Int.le_refl _, by simp only; omega, Int.le_refl _, hT, fun _ => ⟨by simp only; omega, by simp only; omega, by simp only [po]⟩⟩
  | false =>
    simp only [Bool.false_eq_true, if_false]
    refine ⟨pp, po, rp, ro, rfl, p1, p2, c, l0, l1, x0, x1, w0, w1, t0, t1, fun hh => ?_⟩
    have hbt : b = true := hh
    subst hbt
    simp only [Bool.true_and] at hb
    have := eq (by simpa using hb)
    exact this
theorem TRel.new {period ov : Int} (p1 : 1 ≤ period) (p2 : period ≤ 4294967296) (c : Cnt ov) : TRel 0 period ov ⟨period, ov, false, 0, 0⟩ ⟨period, ov, false, 0, 0⟩ :=
  ⟨rfl, rfl, rfl, rfl, rfl, p1, p2, c, Int.le_refl _, by simp only; omega, Int.le_refl _, by simp, Int.le_refl _, by simp only; omega, Int.le_refl _, Int.le_refl _, fun h => by cases h⟩
/-- What a producer tells within n ticks, and what is then. -/
def Pr.tk (p : Pr) (n : Nat) : List Int × Pr := if p.on then ((tt p.period.toNat p.ov n p.left.toNat p.next).1, { p with left := (tt p.period.toNat p.ov n p.left.toNat p.next).2.1, next := (tt p.period.toNat p.ov n p.left.toNat p.next).2.2 }) else ([], p)
def TkPost (w : World) (g : Nat) (p : Pr) (n : Nat) (e : Ending) (w' : World) : Prop := ∃ A c, e = .returned (.slice A (p.tk n).1.length c) ∧ Row w' A (ints .i64 (p.tk n).1) ∧ IsPr w' g (p.tk n).2 ∧ Keep (One g) w w' ∧ ∀ a, A = some a → w.heap.size ≤ a.block
theorem Tick_u {T period ov : Int} {w : World} {g : Nat} {p : Pr} {r : Rp} (h : IsPr w g p) (hr : TRel T period ov p r) (n : Int) (n0 : 0 ≤ n) (m : Int) (hm : m = min n 65536) : Calls Try.prog 10 #[.pointer (some ⟨g, 0, none⟩), .int .u64 n] w (TkPost w g p m.toNat) := by
  cases ho : p.on with
  | true =>
    refine (Tick_on h ho hr.ok n n0 m hm).mono ?_
    rintro e w' ⟨v, rfl, ⟨A, c, rfl, h1, h2, h4⟩, h5, h6⟩
    unfold TkPost Pr.tk
    rw [ho]
    simp only [if_true]
    exact ⟨A, c, rfl, h1, by have := h5; rw [ho] at this; exact this, h6, h4⟩
  | false =>
    refine (Tick_off h ho n).mono ?_
    rintro e w' ⟨rfl, rfl⟩
    unfold TkPost Pr.tk
    rw [ho]
    simp only [Bool.false_eq_true, if_false]
    exact ⟨none, 0, rfl, Row.nil _ _, h, Keep.refl _ _, fun a ha => by cases ha⟩
def RTkPost (T period ov : Int) (w : World) (f : Nat) (p : Pr) (n : Nat) (e : Ending) (w' : World) : Prop := ∃ A c r, e = .returned (.slice A (p.tk n).1.length c) ∧ Row w' A (ints .i64 (p.tk n).1) ∧ IsRp w' f r ∧ TRel (T + 65536) period ov (p.tk n).2 r ∧ Keep (One f) w w'
theorem RTick_u {T period ov : Int} {w : World} {f : Nat} {p : Pr} {r : Rp} (h : IsRp w f r) (hr : TRel T period ov p r) (hT : T ≤ 4611686018427387904) (n : Int) (n0 : 0 ≤ n) (m : Int) (hm : m = min n 65536) : Calls Try.prog 17 #[.pointer (some ⟨f, 0, none⟩), .int .u64 n] w (RTkPost T period ov w f p m.toNat) := by
  cases ho : p.on with
  | true =>
    refine (RTick_on h (hr.on.trans ho) T hT hr.rok n n0 m hm).mono ?_
    have hm1 : m.toNat ≤ 65536 := by omega
    rintro e w' ⟨v, rfl, ⟨A, c, rfl, h1, h2, h4⟩, ⟨q, h5, q1, q2, q3, q4, q5, q6⟩, h6⟩
    obtain ⟨pp, po, rp, ro, on, p1, p2, c0, l0, l1, x0, x1, w0, w1, t0, t1, eq⟩ := hr
    obtain ⟨e1, e2, e3⟩ := eq ho
    have ep : r.period = p.period := rp.trans pp.symm
    have eo : r.ov = p.ov := ro.trans po.symm
    have el : r.period - r.went = p.left := by omega
    have ex : after r.told r.ov = p.next := by rw [ro]; exact e3.symm
    rw [ep, eo] at h1 h2 q5 q6 ⊢
    rw [ep] at el
    rw [eo] at ex
    rw [el, ex] at h1 h2 q5 q6 ⊢
    have tr := tt_range (p := p.period.toNat) (ov := p.ov) (by omega) (by rw [po]; exact c0) m.toNat p.left.toNat p.next (by omega) (by omega) x0 x1
    obtain ⟨z1, z2, z3, z4, z5, z6, z7⟩ := q4
    unfold RTkPost Pr.tk
    rw [ho]
    simp only [if_true]
    refine ⟨A, c, q, rfl, h1, h5, ⟨pp, po, by omega, by rw [q2, eo, po], q3, p1, p2, c0, by simp only; omega, by simp only; omega, tr.2.2.1, tr.2.2.2.1, z4, by omega, z6, by omega, fun _ => ⟨by simp only; omega, by simp only; omega, ?_⟩⟩, h6⟩
    have : q.ov = ov := by rw [q2, eo, po]
    rw [this] at q6
    exact q6.symm
  | false =>
    refine (RTick_off h (hr.on.trans ho) n n0).mono ?_
    rintro e w' ⟨⟨a, c, rfl⟩, hk⟩
    unfold RTkPost Pr.tk
    rw [ho]
    simp only [Bool.false_eq_true, if_false]
    exact ⟨some a, c, r, rfl, Row.nil _ _, h.keep hk id, hr.more (by omega), hk.mono (fun i hi => hi.elim)⟩
theorem tk_length {T period ov : Int} {p : Pr} {r : Rp} (hr : TRel T period ov p r) (n : Nat) (hn : n ≤ 65536) : (p.tk n).1.length ≤ 65536 := by
  unfold Pr.tk
  split
  · rename_i ho
    obtain ⟨pp, po, rp, ro, on, p1, p2, c0, l0, l1, x0, x1, w0, w1, t0, t1, eq⟩ := hr
    have := eq ho
    have tr := tt_range (p := p.period.toNat) (ov := p.ov) (by omega) (by rw [po]; exact c0) n p.left.toNat p.next (by omega) (by omega) x0 x1
    simp only
    omega
  · simp
end Go.Proofs.Ytmaajpkkdpaeeaa.Sync
