/- The two senders answer alike: plain law. -/
import Derived.Test.YtcgnkabblmoboaaPdoE
namespace Go.Proofs.Ytcgnkabblmoboaa.Pdo
structure Rel (s : Sd) (d : Rs) (n : Int) : Prop where
  is : isB s.typ = true
  i0 : 0 ≤ s.inh
  i1 : s.inh ≤ 4294967296
  n0 : 0 ≤ n
  y0 : 0 ≤ s.syncs
  y1 : s.syncs ≤ 255
  k0 : 0 ≤ s.since
  k1 : s.since ≤ n
  q0 : 0 ≤ s.quiet
  q1 : s.quiet ≤ s.inh
  dy0 : 0 ≤ d.syncs
  dy1 : d.syncs ≤ n
  dk0 : 0 ≤ d.since
  dk1 : d.since ≤ n
  dt : d.typ = s.typ
  di : d.inh = s.inh
  dv : d.ev = s.ev
  on : d.on = s.on
  fr : s.on = true → freeB s.typ = true → s.waits = d.waits ∧ s.since = d.since ∧ s.quiet = if d.sent = true ∧ d.since < d.inh then d.inh - d.since else 0
  ze : s.on = true → s.typ = 0 → s.waits = d.waits
  cy : s.on = true → freeB s.typ = false → s.typ ≠ 0 → s.syncs = d.syncs % s.typ
theorem isB_bound {t : Int} (h : isB t = true) : 0 ≤ t ∧ t ≤ 255 := by
  unfold isB freeB at h
  simp at h
  omega
theorem Rel.bds {s : Sd} {d : Rs} {n : Int} (h : Rel s d n) (hn : n ≤ 4611686018427387904) : Bds s d := by
  have hb := isB_bound h.is
  have := h.i0; have := h.i1; have := h.n0; have := h.y0; have := h.y1; have := h.k0; have := h.k1; have := h.q0; have := h.q1; have := h.dy0; have := h.dy1; have := h.dk0; have := h.dk1
  constructor <;> first | exact h.dt | omega
theorem free_zero : freeB 0 = false := rfl
theorem Rel.start {s : Sd} {d : Rs} {n : Int} (h : Rel s d n) (b : Bool) : Rel (s.start b) (d.start b) n := by
  obtain ⟨is, i0, i1, n0, y0, y1, k0, k1, q0, q1, dy0, dy1, dk0, dk1, dt, di, dv, on, fr, ze, cy⟩ := h
  unfold Sd.start Rs.start
  rw [on]
  cases b <;> cases ho : s.on
  all_goals
    simp only [ho, Bool.true_and, Bool.false_and, Bool.not_true, Bool.not_false, if_true, if_false, Bool.false_eq_true] at *
    constructor <;> simp_all
  all_goals first | omega | exact Or.inr (by intro; contradiction) | skip
theorem Rel.event {s : Sd} {d : Rs} {n : Int} (h : Rel s d n) : s.event.1 = d.event.1 ∧ Rel s.event.2 d.event.2 n := by
  obtain ⟨is, i0, i1, n0, y0, y1, k0, k1, q0, q1, dy0, dy1, dk0, dk1, dt, di, dv, on, fr, ze, cy⟩ := h
  unfold Sd.event Rs.event
  rw [on, dt]
  cases ho : s.on
  · refine ⟨rfl, ?_⟩
    constructor <;> simp_all
  · cases hf : freeB s.typ
    · refine ⟨rfl, ?_⟩
      constructor <;> simp_all
    · obtain ⟨f1, f2, f3⟩ := fr ho hf
      have hq : (decide (s.quiet = 0)) = !d.quiet := by
        unfold Rs.quiet
        cases hs : d.sent
        · simp [hs] at f3
          simp [f3]
        · by_cases hl : d.since < d.inh
          · simp [hs, hl] at f3
            simp [f3, hl]
            omega
          · simp [hs, hl] at f3
            simp [f3, hl]
      simp only [hq, Bool.true_and, if_true]
      cases hd : d.quiet
      · refine ⟨rfl, ?_⟩
        have hz : s.typ ≠ 0 := by rintro h; rw [h] at hf; cases hf
        constructor <;> simp_all [Sd.sent, Rs.gone]
        omega
      · refine ⟨rfl, ?_⟩
        have hz : s.typ ≠ 0 := by rintro h; rw [h] at hf; cases hf
        constructor <;> simp_all
theorem Rel.more {s : Sd} {d : Rs} {n m : Int} (h : Rel s d n) (hm : n ≤ m) : Rel s d m := by
  obtain ⟨is, i0, i1, n0, y0, y1, k0, k1, q0, q1, dy0, dy1, dk0, dk1, dt, di, dv, on, fr, ze, cy⟩ := h
  constructor <;> first | assumption | omega
theorem Rel.sync {s : Sd} {d : Rs} {n : Int} (h : Rel s d n) : s.sync.1 = d.sync.1 ∧ Rel s.sync.2 d.sync.2 (n + 1) := by
  have hm := h.more (m := n + 1) (by omega)
  have hb := isB_bound h.is
  have en := h.dy1
  obtain ⟨is, i0, i1, n0, y0, y1, k0, k1, q0, q1, dy0, dy1, dk0, dk1, dt, di, dv, on, fr, ze, cy⟩ := hm
  unfold Sd.sync Rs.sync
  rw [on, dt]
  cases ho : s.on
  · refine ⟨rfl, ?_⟩
    constructor <;> simp_all
  · cases hf : freeB s.typ
    · simp only [Bool.true_and, Bool.not_false, if_true]
      by_cases hz : s.typ = 0
      · rw [if_pos hz, if_pos hz]
        refine ⟨ze ho hz, ?_⟩
        constructor <;> simp_all
      · rw [if_neg hz, if_neg hz]
        have hc := cy ho hf hz
        have e : (s.syncs + 1) % s.typ = (d.syncs + 1) % s.typ := by rw [hc]; simp [Int.emod_add_emod]
        rw [e]
        have m0 := Int.emod_nonneg (d.syncs + 1) (b := s.typ) (by omega)
        have m1 := Int.emod_lt_of_pos (d.syncs + 1) (b := s.typ) (by omega)
        refine ⟨rfl, ?_⟩
        refine { is := is, i0 := i0, i1 := i1, n0 := n0, y0 := m0, y1 := by simp only; omega, k0 := k0, k1 := k1, q0 := q0, q1 := q1, dy0 := by simp only; omega, dy1 := by simp only; omega, dk0 := dk0, dk1 := dk1, dt := rfl, di := di, dv := dv, on := rfl, fr := fun _ h => ?_, ze := fun _ h => absurd h hz, cy := fun _ _ _ => rfl }
        exact absurd h (by simp [hf])
    · refine ⟨rfl, ?_⟩
      constructor <;> simp_all
theorem Rel.tick {s : Sd} {d : Rs} {n : Int} (h : Rel s d n) : s.tick.1 = d.tick.1 ∧ Rel s.tick.2 d.tick.2 (n + 1) := by
  have hm := h.more (m := n + 1) (by omega)
  have en := h.dk1
  have en2 := h.k1
  obtain ⟨is, i0, i1, n0, y0, y1, k0, k1, q0, q1, dy0, dy1, dk0, dk1, dt, di, dv, on, fr, ze, cy⟩ := hm
  unfold Sd.tick Rs.tick
  rw [on, dt]
  cases ho : s.on
  · refine ⟨rfl, ?_⟩
    constructor <;> simp_all
  · cases hf : freeB s.typ
    · refine ⟨rfl, ?_⟩
      constructor <;> simp_all
    · obtain ⟨f1, f2, f3⟩ := fr ho hf
      have hz : s.typ ≠ 0 := by rintro h; rw [h] at hf; cases hf
      simp only [Bool.true_and, if_true]
      obtain ⟨q, hq⟩ : ∃ q, q = (if 0 < s.quiet then s.quiet - 1 else s.quiet) := ⟨_, rfl⟩
      rw [← hq]
      have hq2 : q = if d.sent = true ∧ d.since + 1 < d.inh then d.inh - (d.since + 1) else 0 := by
        rw [hq]
        cases hs : d.sent
        · simp [hs] at f3
          simp [f3]
        · simp only [hs, true_and] at f3 ⊢
          split at f3 <;> split <;> split <;> omega
      have hqq : (q = 0) ↔ (Rs.quiet { typ := s.typ, inh := d.inh, ev := d.ev, on := true, waits := d.waits, since := d.since + 1, sent := d.sent, syncs := d.syncs } = false) := by
        rw [hq2]
        unfold Rs.quiet
        cases hs : d.sent
        · simp
        · by_cases hl : d.since + 1 < d.inh
          · simp [hl]
            omega
          · simp [hl]
      have r0 : 0 ≤ q := by rw [hq]; split <;> omega
      have r1 : q ≤ s.inh := by rw [hq]; split <;> omega
      have hww : (s.waits = true ∨ 0 < s.ev ∧ s.ev ≤ s.since + 1) ↔ (d.waits = true ∨ 0 < d.ev ∧ d.ev ≤ d.since + 1) := by rw [f1, dv, f2]
      by_cases hA : q = 0 ∧ (s.waits = true ∨ 0 < s.ev ∧ s.ev ≤ s.since + 1)
      · rw [if_pos hA, if_pos ⟨hqq.1 hA.1, hww.1 hA.2⟩]
        refine ⟨rfl, ?_⟩
        refine { is := is, i0 := i0, i1 := i1, n0 := n0, y0 := Int.le_refl 0, y1 := (by decide : (0 : Int) ≤ 255), k0 := Int.le_refl 0, k1 := n0, q0 := i0, q1 := Int.le_refl _, dy0 := dy0, dy1 := dy1, dk0 := Int.le_refl 0, dk1 := n0, dt := rfl, di := di, dv := dv, on := rfl, fr := fun _ _ => ⟨rfl, rfl, ?_⟩, ze := fun _ h => absurd h hz, cy := fun _ h => ?_ }
        · simp only [Sd.sent, Rs.gone, true_and, di, Int.sub_zero]
          split <;> omega
        · have : freeB s.typ = false := h
          rw [hf] at this
          cases this
      · rw [if_neg hA, if_neg (fun hB => hA ⟨hqq.2 hB.1, hww.2 hB.2⟩)]
        refine ⟨rfl, ?_⟩
        refine { is := is, i0 := i0, i1 := i1, n0 := n0, y0 := y0, y1 := y1, k0 := by simp only; omega, k1 := by simp only; omega, q0 := r0, q1 := r1, dy0 := dy0, dy1 := dy1, dk0 := by simp only; omega, dk1 := by simp only; omega, dt := rfl, di := di, dv := dv, on := rfl, fr := fun _ _ => ⟨f1, by simp only [f2], hq2⟩, ze := fun _ h => absurd h hz, cy := fun _ h => ?_ }
        have : freeB s.typ = false := h
        rw [hf] at this
        cases this
theorem Rel.act {s : Sd} {d : Rs} {n : Int} (h : Rel s d n) (k : Int) (b : Bool) : (s.act k b).1 = (d.act k b).1 ∧ Rel (s.act k b).2 (d.act k b).2 (n + 1) := by
  unfold Sd.act Rs.act
  by_cases h0 : k = 0
  · rw [if_pos h0, if_pos h0]
    exact ⟨h.event.1, h.event.2.more (by omega)⟩
  rw [if_neg h0, if_neg h0]
  by_cases h1 : k = 1
  · rw [if_pos h1, if_pos h1]
    exact h.sync
  rw [if_neg h1, if_neg h1]
  by_cases h2 : k = 2
  · rw [if_pos h2, if_pos h2]
    exact h.tick
  rw [if_neg h2, if_neg h2]
  by_cases h3 : k = 3
  · rw [if_pos h3, if_pos h3]
    exact ⟨rfl, (h.start b).more (by omega)⟩
  rw [if_neg h3, if_neg h3]
  exact ⟨rfl, h.more (by omega)⟩
def Rs.new (t i v : Int) : Rs := ⟨t, i, v, false, false, 0, false, 0⟩
theorem Rel.new {t i v : Int} (h : okB t i v = true) (i0 : 0 ≤ i) : Rel (Sd.new t i v) (Rs.new t i v) 0 := by
  unfold okB at h
  simp at h
  obtain ⟨h1, h2, h3⟩ := h
  constructor <;> simp_all [Sd.new, Rs.new]
end Go.Proofs.Ytcgnkabblmoboaa.Pdo
