/- What the document's sender comes to. -/
import Derived.Test.YtcgnkabblmoboaaPdoB
namespace Go.Proofs.Ytcgnkabblmoboaa.Pdo
open Go.RowKit Go.Proofs.Ytcgnkabblmoboaa.Own
structure Rs where
  typ : Int
  inh : Int
  ev : Int
  on : Bool
  waits : Bool
  since : Int
  sent : Bool
  syncs : Int
def Rs.cells (s : Rs) : Array Value := #[.int .i64 s.typ, .int .u64 s.inh, .int .u64 s.ev, .bool s.on, .bool s.waits, .int .u64 s.since, .bool s.sent, .int .i64 s.syncs]
def IsRs (w : World) (g : Nat) (s : Rs) : Prop := Blk w g s.cells 47
theorem IsRs.keep {S : Nat → Prop} {w w1 : World} {g : Nat} {p : Rs} (h : IsRs w g p) (k : Keep S w w1) (hn : ¬ S g) : IsRs w1 g p := Blk.keep h k hn
theorem IsRs.facts {w : World} {g : Nat} {s : Rs} (h : IsRs w g s) :
    w.cell? ⟨g, 0, none⟩ = some (.int .i64 s.typ) ∧ w.cell? ⟨g, 1, none⟩ = some (.int .u64 s.inh) ∧ w.cell? ⟨g, 2, none⟩ = some (.int .u64 s.ev) ∧ w.cell? ⟨g, 3, none⟩ = some (.bool s.on) ∧ w.cell? ⟨g, 4, none⟩ = some (.bool s.waits) ∧ w.cell? ⟨g, 5, none⟩ = some (.int .u64 s.since) ∧ w.cell? ⟨g, 6, none⟩ = some (.bool s.sent) ∧ w.cell? ⟨g, 7, none⟩ = some (.int .i64 s.syncs) ∧
    w.frozen? ⟨g, 3, none⟩ = false ∧ w.frozen? ⟨g, 4, none⟩ = false ∧ w.frozen? ⟨g, 5, none⟩ = false ∧ w.frozen? ⟨g, 6, none⟩ = false ∧ w.frozen? ⟨g, 7, none⟩ = false :=
  ⟨h.cell 0, h.cell 1, h.cell 2, h.cell 3, h.cell 4, h.cell 5, h.cell 6, h.cell 7, h.frozen 3, h.frozen 4, h.frozen 5, h.frozen 6, h.frozen 7⟩
def RBoolPost (w : World) (g : Nat) (r : Bool × Rs) (e : Ending) (w' : World) : Prop := e = .returned (.bool r.1) ∧ IsRs w' g r.2 ∧ Keep (One g) w w'
def Rs.quiet (s : Rs) : Bool := s.sent && decide (s.since < s.inh)
set_option maxHeartbeats 1000000 in
theorem RQuiet_any {w : World} {g : Nat} {s : Rs} (h : IsRs w g s) : Calls Try.prog 32 #[.pointer (some ⟨g, 0, none⟩)] w fun e w' => e = .returned (.bool s.quiet) ∧ ∃ n, w' = w.drewN n := by
  obtain ⟨c0, c1, c2, c3, c4, c5, c6, c7, f3, f4, f5, f6, f7⟩ := h.facts
  have H := Lib.hid h
  clear h
  cases hs : s.sent with
  | false =>
    have E : Hid (s.quiet = false) := by unfold Hid Rs.quiet; rw [hs]; rfl
    rw [hs] at c6
    clear hs
    go_enter Try.func32, Try.ntmps32
    go_wp2_with fail
    go_quiet (fail)
    go_wp2
    go_ret
    rw [E.out]
    exact ⟨rfl, _, rfl⟩
  | true =>
    have E : Hid (s.quiet = decide (s.since < s.inh)) := by unfold Hid Rs.quiet; rw [hs]; rfl
    rw [hs] at c6
    clear hs
    go_enter Try.func32, Try.ntmps32
    go_wp2_with fail
    go_quiet (fail)
    go_wp2
    go_ret
    rw [E.out]
    exact ⟨rfl, _, rfl⟩
theorem RQuiet_is {w : World} {g : Nat} {s : Rs} {n : Nat} {b : Bool} (h : IsRs w g s) (hb : s.quiet = b) : Calls Try.prog 32 #[.pointer (some ⟨g, 0, none⟩)] (w.drewN n) fun e w' => e = .returned (.bool b) ∧ ∃ m, w' = (w.drewN n).drewN m := hb ▸ RQuiet_any (w := w.drewN n) h
theorem RQuiet_keep {w : World} {g : Nat} {s : Rs} {b : Bool} (h : IsRs w g s) (hb : s.quiet = b) : Calls Try.prog 32 #[.pointer (some ⟨g, 0, none⟩)] w fun e w' => e = .returned (.bool b) ∧ Keep Zero w w' := by
  refine (RQuiet_any h).mono ?_
  rintro e w' ⟨he, n, rfl⟩
  exact ⟨hb ▸ he, (Keep.refl _ _).drewN n⟩

def Rs.gone (s : Rs) : Rs := { s with waits := false, since := 0, sent := true }
set_option maxHeartbeats 1000000 in
theorem Rsends_any {w : World} {g : Nat} {s : Rs} (h : IsRs w g s) : Calls Try.prog 33 #[.pointer (some ⟨g, 0, none⟩)] w (RBoolPost w g (true, s.gone)) := by
  obtain ⟨c0, c1, c2, c3, c4, c5, c6, c7, f3, f4, f5, f6, f7⟩ := h.facts
  have H := Lib.hid h
  clear h
  go_enter Try.func33, Try.ntmps33
  go_wp2
  go_ret
  refine ⟨rfl, ?_, ?_⟩
  · apply Blk.cast
    · repeat (first | (with_reducible first | apply Blk.set | apply Blk.drewN | apply Blk.drew) | exact H.out)
    · simp [Rs.cells, Rs.gone]
  · repeat (with_reducible first | exact Keep.refl _ _ | apply Keep.set1 | apply Keep.drewN | apply Keep.drew)
def Rs.start (s : Rs) (b : Bool) : Rs := if b && !s.on then { s with on := b, waits := false, since := 0, sent := false, syncs := 0 } else { s with on := b }
def RStartPost (w : World) (g : Nat) (s : Rs) (b : Bool) (e : Ending) (w' : World) : Prop := e = .returned (.tuple #[]) ∧ IsRs w' g (s.start b) ∧ Keep (One g) w w'
set_option maxHeartbeats 2000000 in
theorem RStart_any {w : World} {g : Nat} {s : Rs} (h : IsRs w g s) (b : Bool) : Calls Try.prog 18 #[.pointer (some ⟨g, 0, none⟩), .bool b] w (RStartPost w g s b) := by
  obtain ⟨c0, c1, c2, c3, c4, c5, c6, c7, f3, f4, f5, f6, f7⟩ := h.facts
  have H := Lib.hid h
  clear h
  cases hb : b && !s.on with
  | true =>
    obtain ⟨rfl, ho⟩ : b = true ∧ s.on = false := by simpa using hb
    have e : s.start true = { s with on := true, waits := false, since := 0, sent := false, syncs := 0 } := by simp [Rs.start, ho]
    have E := Lib.hid e
    clear hb e
    go_enter Try.func18, Try.ntmps18
    go_wp2
    go_end0
    refine ⟨rfl, ?_, ?_⟩
    · rw [E.out]
      apply Blk.cast
      · repeat (first | (with_reducible first | apply Blk.set | apply Blk.drewN | apply Blk.drew) | exact H.out)
      · simp [Rs.cells]
    · repeat (with_reducible first | exact Keep.refl _ _ | apply Keep.set1 | apply Keep.drewN | apply Keep.drew)
  | false =>
    have e : s.start b = { s with on := b } := by simp [Rs.start, hb]
    have E := Lib.hid e
    have hb' : b = false ∨ (b = true ∧ s.on = true) := by cases b <;> simp_all
    clear hb e
    rcases hb' with rfl | ⟨rfl, ho⟩
    all_goals
      go_enter Try.func18, Try.ntmps18
      go_wp2
      go_end0
      refine ⟨rfl, ?_, ?_⟩
      · rw [E.out]
        apply Blk.cast
        · repeat (first | (with_reducible first | apply Blk.set | apply Blk.drewN | apply Blk.drew) | exact H.out)
        · simp [Rs.cells]
      · repeat (with_reducible first | exact Keep.refl _ _ | apply Keep.set1 | apply Keep.drewN | apply Keep.drew)

def Rs.event (s : Rs) : Bool × Rs := if s.on && freeB s.typ && !s.quiet then (true, s.gone) else (false, { s with waits := s.on })
set_option maxHeartbeats 4000000 in
theorem REvent_any {w : World} {g : Nat} {s : Rs} (h : IsRs w g s) : Calls Try.prog 28 #[.pointer (some ⟨g, 0, none⟩)] w (RBoolPost w g s.event) := by
  obtain ⟨c0, c1, c2, c3, c4, c5, c6, c7, f3, f4, f5, f6, f7⟩ := h.facts
  have H := Lib.hid h
  clear h
  obtain ⟨q, hq⟩ : ∃ q, s.quiet = q := ⟨_, rfl⟩
  have QQ := Lib.hid hq
  cases ho : s.on with
  | false =>
    have E : Hid (s.event = (false, { s with waits := false })) := by unfold Hid Rs.event; rw [ho]; rfl
    have FF : Hid (freeB s.typ = freeB s.typ) := rfl
    clear hq
    have HO := Lib.hid ho
    rw [ho] at c3
    clear ho
    go_enter Try.func28, Try.ntmps28
    go_wp2_with (first | ((with_reducible refine (RFree_any s.typ _ FF.out _).mono ?_); rintro e w' ⟨rfl, rfl⟩) | ((with_reducible refine (RQuiet_any H.out).mono ?_); rintro e w' ⟨rfl, n, rfl⟩; rw [QQ.out]))
    go_ret
    unfold RBoolPost
    rw [E.out]
    refine ⟨rfl, ?_, ?_⟩
    · apply Blk.cast
      · repeat (first | (with_reducible first | apply Blk.set | apply Blk.drewN | apply Blk.drew) | exact H.out)
      · simp [Rs.cells]
    · repeat (with_reducible first | exact Keep.refl _ _ | apply Keep.set1 | apply Keep.drewN | apply Keep.drew)
  | true =>
    cases hf : freeB s.typ with
    | false =>
      have E : Hid (s.event = (false, { s with waits := true })) := by unfold Hid Rs.event; rw [ho, hf]; rfl
      have FF := Lib.hid hf
      clear hq hf
      have HO := Lib.hid ho
      rw [ho] at c3
      clear ho
      go_enter Try.func28, Try.ntmps28
      go_wp2_with (first | ((with_reducible refine (RFree_any s.typ _ FF.out _).mono ?_); rintro e w' ⟨rfl, rfl⟩) | ((with_reducible refine (RQuiet_any H.out).mono ?_); rintro e w' ⟨rfl, n, rfl⟩; rw [QQ.out]))
      go_ret
      unfold RBoolPost
      rw [E.out]
      refine ⟨rfl, ?_, ?_⟩
      · apply Blk.cast
        · repeat (first | (with_reducible first | apply Blk.set | apply Blk.drewN | apply Blk.drew) | exact H.out)
        · simp [Rs.cells]
      · repeat (with_reducible first | exact Keep.refl _ _ | apply Keep.set1 | apply Keep.drewN | apply Keep.drew)
    | true =>
      have FF := Lib.hid hf
      cases q with
      | true =>
        have E : Hid (s.event = (false, { s with waits := true })) := by unfold Hid Rs.event; rw [ho, hf, hq]; rfl
        clear hq hf
        have HO := Lib.hid ho
        rw [ho] at c3
        clear ho
        go_enter Try.func28, Try.ntmps28
        go_wp2_with (first | ((with_reducible refine (RFree_any s.typ _ FF.out _).mono ?_); rintro e w' ⟨rfl, rfl⟩) | ((with_reducible refine (RQuiet_any H.out).mono ?_); rintro e w' ⟨rfl, n, rfl⟩; rw [QQ.out]))
        go_ret
        unfold RBoolPost
        rw [E.out]
        refine ⟨rfl, ?_, ?_⟩
        · apply Blk.cast
          · repeat (first | (with_reducible first | apply Blk.set | apply Blk.drewN | apply Blk.drew) | exact H.out)
          · simp [Rs.cells]
        · repeat (with_reducible first | exact Keep.refl _ _ | apply Keep.set1 | apply Keep.drewN | apply Keep.drew)
      | false =>
        have E : Hid (s.event = (true, s.gone)) := by unfold Hid Rs.event; rw [ho, hf, hq]; rfl
        rw [ho] at c3
        clear hq hf ho
        go_enter Try.func28, Try.ntmps28
        go_wp2_with (first | ((with_reducible refine (RFree_any s.typ _ FF.out _).mono ?_); rintro e w' ⟨rfl, rfl⟩) | ((with_reducible refine (RQuiet_any H.out).mono ?_); rintro e w' ⟨rfl, n, rfl⟩; rw [QQ.out]))
        refine (Rsends_any (s := s) (by exact Blk.drewN H.out _)).mono ?_
        rintro e w2 ⟨rfl, h2, k2⟩
        have P : Hid (IsRs w2 g s.gone ∧ Keep (One g) w w2) := ⟨h2, Keep.trans (by repeat (with_reducible first | exact Keep.refl (One g) w | apply Keep.set1 | apply Keep.drewN | apply Keep.drew)) k2 (fun i hi => .inl hi)⟩
        clear h2 k2
        go_wp2
        go_ret
        unfold RBoolPost
        rw [E.out]
        exact ⟨rfl, P.out.1, P.out.2⟩

def Rs.sync (s : Rs) : Bool × Rs :=
  if s.on && !freeB s.typ then (if s.typ = 0 then (s.waits, { s with waits := false }) else ((s.syncs + 1) % s.typ == 0, { s with syncs := s.syncs + 1 })) else (false, s)
set_option maxRecDepth 100000 in
set_option maxHeartbeats 4000000 in
theorem RSync_any {w : World} {g : Nat} {s : Rs} (h : IsRs w g s) (t0 : 0 ≤ s.typ) (t1 : s.typ ≤ 255) (k0 : 0 ≤ s.syncs) (k1 : s.syncs ≤ 4611686018427387904) : Calls Try.prog 29 #[.pointer (some ⟨g, 0, none⟩)] w (RBoolPost w g s.sync) := by
  obtain ⟨c0, c1, c2, c3, c4, c5, c6, c7, f3, f4, f5, f6, f7⟩ := h.facts
  have H := Lib.hid h
  clear h
  cases ho : s.on with
  | false =>
    have E : Hid (s.sync = (false, s)) := by unfold Hid Rs.sync; rw [ho]; rfl
    have FF : Hid (freeB s.typ = freeB s.typ) := rfl
    rw [ho] at c3
    clear ho
    go_enter Try.func29, Try.ntmps29
    go_wp2_with ((with_reducible refine (RFree_any s.typ _ FF.out _).mono ?_); rintro e w' ⟨rfl, rfl⟩)
    go_ret
    unfold RBoolPost
    rw [E.out]
    exact ⟨rfl, H.out, Keep.refl _ _⟩
  | true =>
    cases hf : freeB s.typ with
    | true =>
      have E : Hid (s.sync = (false, s)) := by unfold Hid Rs.sync; rw [ho, hf]; rfl
      have FF := Lib.hid hf
      rw [ho] at c3
      clear ho hf
      go_enter Try.func29, Try.ntmps29
      go_wp2_with ((with_reducible refine (RFree_any s.typ _ FF.out _).mono ?_); rintro e w' ⟨rfl, rfl⟩)
      go_ret
      unfold RBoolPost
      rw [E.out]
      exact ⟨rfl, H.out, Keep.refl _ _⟩
    | false =>
      have FF := Lib.hid hf
      by_cases hz : s.typ = 0
      · have E : Hid (s.sync = (s.waits, { s with waits := false })) := by unfold Hid Rs.sync; rw [ho, hf, if_pos (by rfl), if_pos hz]
        have b1 : (s.typ == 0) = true := by simp [hz]
        have HO := Lib.hid ho
        rw [ho] at c3
        clear hf hz ho
        go_enter Try.func29, Try.ntmps29
        go_wp2_with ((with_reducible refine (RFree_any s.typ _ FF.out _).mono ?_); rintro e w' ⟨rfl, rfl⟩)
        go_ret
        unfold RBoolPost
        rw [E.out]
        refine ⟨rfl, ?_, ?_⟩
        · apply Blk.cast
          · repeat (first | (with_reducible first | apply Blk.set | apply Blk.drewN | apply Blk.drew) | exact H.out)
          · simp [Rs.cells, HO.out]
        · repeat (with_reducible first | exact Keep.refl _ _ | apply Keep.set1 | apply Keep.drewN | apply Keep.drew)
      · have E : Hid (s.sync = ((s.syncs + 1) % s.typ == 0, { s with syncs := s.syncs + 1 })) := by unfold Hid Rs.sync; rw [ho, hf, if_pos (by rfl), if_neg hz]
        have b1 : (s.typ == 0) = false := by simp [hz]
        have t2 : 1 ≤ s.typ := by omega
        have HO := Lib.hid ho
        have m0 := Int.emod_nonneg (s.syncs + 1) (b := s.typ) (by omega)
        have m1 := Int.emod_lt_of_pos (s.syncs + 1) (b := s.typ) (by omega)
        rw [ho] at c3
        clear hf ho
        go_enter Try.func29, Try.ntmps29
        go_wp2_with ((with_reducible refine (RFree_any s.typ _ FF.out _).mono ?_); rintro e w' ⟨rfl, rfl⟩)
        have q2 : (s.syncs + 1).tmod s.typ = (s.syncs + 1) % s.typ := Int.tmod_eq_emod_of_nonneg (by omega)
        go_quiet (fail)
        clear q2
        go_wp2
        go_ret
        unfold RBoolPost
        rw [E.out]
        refine ⟨rfl, ?_, ?_⟩
        · apply Blk.cast
          · repeat (first | (with_reducible first | apply Blk.set | apply Blk.drewN | apply Blk.drew) | exact H.out)
          · simp [Rs.cells, HO.out]
        · repeat (with_reducible first | exact Keep.refl _ _ | apply Keep.set1 | apply Keep.drewN | apply Keep.drew)
def Rs.tick (s : Rs) : Bool × Rs :=
  if s.on && freeB s.typ then (if Rs.quiet { s with since := s.since + 1 } = false ∧ (s.waits = true ∨ (0 < s.ev ∧ s.ev ≤ s.since + 1)) then (true, Rs.gone { s with since := s.since + 1 }) else (false, { s with since := s.since + 1 })) else (false, s)
set_option maxRecDepth 100000 in
set_option maxHeartbeats 8000000 in
theorem RTick_any {w : World} {g : Nat} {s : Rs} (h : IsRs w g s) (k0 : 0 ≤ s.since) (k1 : s.since ≤ 4611686018427387904) : Calls Try.prog 30 #[.pointer (some ⟨g, 0, none⟩)] w (RBoolPost w g s.tick) := by
  obtain ⟨c0, c1, c2, c3, c4, c5, c6, c7, f3, f4, f5, f6, f7⟩ := h.facts
  have H := Lib.hid h
  clear h
  cases ho : s.on with
  | false =>
    have E : Hid (s.tick = (false, s)) := by unfold Hid Rs.tick; rw [ho]; rfl
    have FF : Hid (freeB s.typ = freeB s.typ) := rfl
    rw [ho] at c3
    clear ho
    go_enter Try.func30, Try.ntmps30
    go_wp2_with ((with_reducible refine (RFree_any s.typ _ FF.out _).mono ?_); rintro e w' ⟨rfl, rfl⟩)
    go_ret
    unfold RBoolPost
    rw [E.out]
    exact ⟨rfl, H.out, Keep.refl _ _⟩
  | true =>
    cases hf : freeB s.typ with
    | false =>
      have E : Hid (s.tick = (false, s)) := by unfold Hid Rs.tick; rw [ho, hf]; rfl
      have FF := Lib.hid hf
      rw [ho] at c3
      clear ho hf
      go_enter Try.func30, Try.ntmps30
      go_wp2_with ((with_reducible refine (RFree_any s.typ _ FF.out _).mono ?_); rintro e w' ⟨rfl, rfl⟩)
      go_ret
      unfold RBoolPost
      rw [E.out]
      exact ⟨rfl, H.out, Keep.refl _ _⟩
    | true =>
      have FF := Lib.hid hf
      have HN : Hid (IsRs (w.setCell ⟨g, 5, none⟩ (.int .u64 (s.since + 1))) g { s with since := s.since + 1 }) := Lib.hid ((Blk.set H.out 5 _).cast (by simp [Rs.cells]))
      obtain ⟨q, hq⟩ : ∃ q, Rs.quiet { s with since := s.since + 1 } = q := ⟨_, rfl⟩
      have QQ := Lib.hid hq
      clear hq
      cases q with
      | true =>
        have E : Hid (s.tick = (false, { s with since := s.since + 1 })) := by
          unfold Hid Rs.tick
          rw [QQ.out, ho, hf, if_pos (by rfl)]
          simp [*]
        rw [ho] at c3
        have HO := Lib.hid ho
        clear hf ho
        go_enter Try.func30, Try.ntmps30
        go_wp2_with ((with_reducible refine (RFree_any s.typ _ FF.out _).mono ?_); rintro e w' ⟨rfl, rfl⟩)
        go_quiet ((go_at_call 32; exact Calls.quiet_of (RQuiet_is (s := { s with since := s.since + 1 }) HN.out QQ.out)))
        go_wp2
        go_ret
        unfold RBoolPost
        rw [E.out]
        refine ⟨rfl, ?_, ?_⟩
        · apply Blk.cast
          · repeat (first | (with_reducible first | apply Blk.set | apply Blk.drewN | apply Blk.drew) | exact H.out)
          · simp [Rs.cells, *]
        · repeat (with_reducible first | exact Keep.refl _ _ | apply Keep.set1 | apply Keep.drewN | apply Keep.drew)
      | false =>
        cases hw : s.waits with
        | true =>
          rw [hw] at c4
          have E : Hid (s.tick = (true, Rs.gone { s with since := s.since + 1 })) := by
            unfold Hid Rs.tick
            rw [QQ.out, ho, hf, if_pos (by rfl)]
            simp [*]
          rw [ho] at c3
          have HO := Lib.hid ho
          clear hf ho
          go_enter Try.func30, Try.ntmps30
          go_wp2_with ((with_reducible refine (RFree_any s.typ _ FF.out _).mono ?_); rintro e w' ⟨rfl, rfl⟩)
          go_quiet ((go_at_call 32; exact Calls.quiet_of (RQuiet_is (s := { s with since := s.since + 1 }) HN.out QQ.out)))
          go_wp2_with fail
          refine (Rsends_any (s := { s with since := s.since + 1 }) (by exact Blk.drewN HN.out _)).mono ?_
          rintro e w2 ⟨rfl, h2, k2⟩
          have P : Hid (IsRs w2 g (Rs.gone { s with since := s.since + 1 }) ∧ Keep (One g) w w2) := ⟨h2, Keep.trans (by repeat (with_reducible first | exact Keep.refl (One g) w | apply Keep.set1 | apply Keep.drewN | apply Keep.drew)) k2 (fun i hi => .inl hi)⟩
          clear h2 k2
          go_wp2
          go_ret
          unfold RBoolPost
          rw [E.out]
          exact ⟨rfl, P.out.1, P.out.2⟩
        | false =>
          rw [hw] at c4
          by_cases he : 0 < s.ev
          · have b4 : decide (0 < s.ev) = true := decide_eq_true he
            by_cases hs : s.ev ≤ s.since + 1
            · have b5 : decide (s.ev ≤ s.since + 1) = true := decide_eq_true hs
              have E : Hid (s.tick = (true, Rs.gone { s with since := s.since + 1 })) := by
                unfold Hid Rs.tick
                rw [QQ.out, ho, hf, if_pos (by rfl)]
                simp [*]
              rw [ho] at c3
              have HO := Lib.hid ho
              clear hf ho
              go_enter Try.func30, Try.ntmps30
              go_wp2_with ((with_reducible refine (RFree_any s.typ _ FF.out _).mono ?_); rintro e w' ⟨rfl, rfl⟩)
              go_quiet ((go_at_call 32; exact Calls.quiet_of (RQuiet_is (s := { s with since := s.since + 1 }) HN.out QQ.out)))
              go_wp2_with fail
              refine (Rsends_any (s := { s with since := s.since + 1 }) (by exact Blk.drewN HN.out _)).mono ?_
              rintro e w2 ⟨rfl, h2, k2⟩
              have P : Hid (IsRs w2 g (Rs.gone { s with since := s.since + 1 }) ∧ Keep (One g) w w2) := ⟨h2, Keep.trans (by repeat (with_reducible first | exact Keep.refl (One g) w | apply Keep.set1 | apply Keep.drewN | apply Keep.drew)) k2 (fun i hi => .inl hi)⟩
              clear h2 k2
              go_wp2
              go_ret
              unfold RBoolPost
              rw [E.out]
              exact ⟨rfl, P.out.1, P.out.2⟩
            · have b5 : decide (s.ev ≤ s.since + 1) = false := decide_eq_false hs
              have E : Hid (s.tick = (false, { s with since := s.since + 1 })) := by
                unfold Hid Rs.tick
                rw [QQ.out, ho, hf, if_pos (by rfl)]
                simp [*]
              rw [ho] at c3
              have HO := Lib.hid ho
              clear hf ho
              go_enter Try.func30, Try.ntmps30
              go_wp2_with ((with_reducible refine (RFree_any s.typ _ FF.out _).mono ?_); rintro e w' ⟨rfl, rfl⟩)
              go_quiet ((go_at_call 32; exact Calls.quiet_of (RQuiet_is (s := { s with since := s.since + 1 }) HN.out QQ.out)))
              go_wp2
              go_ret
              unfold RBoolPost
              rw [E.out]
              refine ⟨rfl, ?_, ?_⟩
              · apply Blk.cast
                · repeat (first | (with_reducible first | apply Blk.set | apply Blk.drewN | apply Blk.drew) | exact H.out)
                · simp [Rs.cells, *]
              · repeat (with_reducible first | exact Keep.refl _ _ | apply Keep.set1 | apply Keep.drewN | apply Keep.drew)
          · have b4 : decide (0 < s.ev) = false := decide_eq_false he
            have E : Hid (s.tick = (false, { s with since := s.since + 1 })) := by
              unfold Hid Rs.tick
              rw [QQ.out, ho, hf, if_pos (by rfl)]
              simp [*]
            rw [ho] at c3
            have HO := Lib.hid ho
            clear hf ho
            go_enter Try.func30, Try.ntmps30
            go_wp2_with ((with_reducible refine (RFree_any s.typ _ FF.out _).mono ?_); rintro e w' ⟨rfl, rfl⟩)
            go_quiet ((go_at_call 32; exact Calls.quiet_of (RQuiet_is (s := { s with since := s.since + 1 }) HN.out QQ.out)))
            go_wp2
            go_ret
            unfold RBoolPost
            rw [E.out]
            refine ⟨rfl, ?_, ?_⟩
            · apply Blk.cast
              · repeat (first | (with_reducible first | apply Blk.set | apply Blk.drewN | apply Blk.drew) | exact H.out)
              · simp [Rs.cells, *]
            · repeat (with_reducible first | exact Keep.refl _ _ | apply Keep.set1 | apply Keep.drewN | apply Keep.drew)
end Go.Proofs.Ytcgnkabblmoboaa.Pdo
