/- What the program's sender comes to: Sync, Tick, and how it is made. -/
import Derived.Test.YtcgnkabblmoboaaPdoA
import Derived.StillTailTactics
namespace Go.Proofs.Ytcgnkabblmoboaa.Pdo
open Go.RowKit Go.Proofs.Ytcgnkabblmoboaa.Own
/-- A SYNC: whether it is sent, and what is then. -/
def Sd.sync (s : Sd) : Bool × Sd :=
  if s.on && !freeB s.typ then (if s.typ = 0 then (s.waits, { s with waits := false }) else ((s.syncs + 1) % s.typ == 0, { s with syncs := (s.syncs + 1) % s.typ })) else (false, s)
set_option maxRecDepth 100000 in
set_option maxHeartbeats 4000000 in
theorem Sync_any {w : World} {g : Nat} {s : Sd} (h : IsSd w g s) (t0 : 0 ≤ s.typ) (t1 : s.typ ≤ 255) (k0 : 0 ≤ s.syncs) (k1 : s.syncs ≤ 255) (n : Int) : Calls Try.prog 21 #[.pointer (some ⟨g, 0, none⟩), .int .i64 n] w (BoolPost w g s.sync) := by
  obtain ⟨c0, c1, c2, c3, c4, c5, c6, c7, f3, f4, f5, f6, f7⟩ := h.facts
  have H := Lib.hid h
  clear h
  cases ho : s.on with
  | false =>
    have E : Hid (s.sync = (false, s)) := by unfold Hid Sd.sync; rw [ho]; rfl
    have FF : Hid (freeB s.typ = freeB s.typ) := rfl
    rw [ho] at c3
    clear ho
    go_enter Try.func21, Try.ntmps21
    go_wp2_with ((with_reducible refine (free_any s.typ _ FF.out _).mono ?_); rintro e w' ⟨rfl, rfl⟩)
    go_ret
    unfold BoolPost
    rw [E.out]
    exact ⟨rfl, H.out, Keep.refl _ _⟩
  | true =>
    cases hf : freeB s.typ with
    | true =>
      have E : Hid (s.sync = (false, s)) := by unfold Hid Sd.sync; rw [ho, hf]; rfl
      have FF := Lib.hid hf
      rw [ho] at c3
      clear ho hf
      go_enter Try.func21, Try.ntmps21
      go_wp2_with ((with_reducible refine (free_any s.typ _ FF.out _).mono ?_); rintro e w' ⟨rfl, rfl⟩)
      go_ret
      unfold BoolPost
      rw [E.out]
      exact ⟨rfl, H.out, Keep.refl _ _⟩
    | false =>
      have FF := Lib.hid hf
      by_cases hz : s.typ = 0
      · have E : Hid (s.sync = (s.waits, { s with waits := false })) := by unfold Hid Sd.sync; rw [ho, hf, if_pos (by rfl), if_pos hz]
        have b1 : (s.typ == 0) = true := by simp [hz]
        have HO := Lib.hid ho
        rw [ho] at c3
        clear hf hz ho
        go_enter Try.func21, Try.ntmps21
        go_wp2_with ((with_reducible refine (free_any s.typ _ FF.out _).mono ?_); rintro e w' ⟨rfl, rfl⟩)
        go_ret
        unfold BoolPost
        rw [E.out]
        refine ⟨rfl, ?_, ?_⟩
        · apply Blk.cast
          · repeat (first | (with_reducible first | apply Blk.set | apply Blk.drewN | apply Blk.drew) | exact H.out)
          · simp [Sd.cells, *]
        · repeat (with_reducible first | exact Keep.refl _ _ | apply Keep.set1 | apply Keep.drewN | apply Keep.drew)
      · have E : Hid (s.sync = ((s.syncs + 1) % s.typ == 0, { s with syncs := (s.syncs + 1) % s.typ })) := by unfold Hid Sd.sync; rw [ho, hf, if_pos (by rfl), if_neg hz]
        have b1 : (s.typ == 0) = false := by simp [hz]
        have t2 : 1 ≤ s.typ := by omega
        have HO := Lib.hid ho
        have m0 := Int.emod_nonneg (s.syncs + 1) (b := s.typ) (by omega)
        have m1 := Int.emod_lt_of_pos (s.syncs + 1) (b := s.typ) (by omega)
        rw [ho] at c3
        clear hf ho
        go_enter Try.func21, Try.ntmps21
        go_wp2_with ((with_reducible refine (free_any s.typ _ FF.out _).mono ?_); rintro e w' ⟨rfl, rfl⟩)
        have q1 : IntKind.i64.wrap (s.syncs + 1) = s.syncs + 1 := IntWalk.i64_in _ (by omega)
        have q2 : (s.syncs + 1).tmod s.typ = (s.syncs + 1) % s.typ := Int.tmod_eq_emod_of_nonneg (by omega)
        go_still_tail 16, (by kernel_rfl)
        change wpList _ _ _ _ _ w.drew
        obtain ⟨w2, hw2⟩ : ∃ w2, w2 = w.drew := ⟨_, rfl⟩
        have H2 : Hid (IsSd w2 g s) := by rw [hw2]; exact H.out
        have K2 : Hid (Keep (One g) w w2) := by rw [hw2]; exact (Keep.refl _ _).drew
        rw [← hw2]
        clear q1 q2 hz hw2 c0 c1 c2 c3 c4 c5 c6 c7 f3 f4 f5 f6 f7
        obtain ⟨c0, c1, c2, c3, c4, c5, c6, c7, f3, f4, f5, f6, f7⟩ := H2.out.facts
        go_wp2
        go_ret
        unfold BoolPost
        rw [E.out]
        refine ⟨rfl, ?_, K2.out.trans ((Keep.refl (One g) w2).set1 7 _) (fun i hi => .inl hi)⟩
        apply Blk.cast
        · repeat (first | (with_reducible first | apply Blk.set | apply Blk.drewN | apply Blk.drew) | exact H2.out)
        · simp [Sd.cells]
/-- A tick: whether it is sent, and what is then. -/
def Sd.tick (s : Sd) : Bool × Sd :=
  if s.on && freeB s.typ then (if (if 0 < s.quiet then s.quiet - 1 else s.quiet) = 0 ∧ (s.waits = true ∨ (0 < s.ev ∧ s.ev ≤ s.since + 1)) then (true, Sd.sent { s with since := s.since + 1, quiet := if 0 < s.quiet then s.quiet - 1 else s.quiet }) else (false, { s with since := s.since + 1, quiet := if 0 < s.quiet then s.quiet - 1 else s.quiet })) else (false, s)
set_option maxRecDepth 100000 in
set_option maxHeartbeats 8000000 in
theorem Tick_any {w : World} {g : Nat} {s : Sd} (h : IsSd w g s) (k0 : 0 ≤ s.since) (k1 : s.since ≤ 4611686018427387904) (q0 : 0 ≤ s.quiet) (q1 : s.quiet ≤ 4294967296) : Calls Try.prog 22 #[.pointer (some ⟨g, 0, none⟩)] w (BoolPost w g s.tick) := by
  obtain ⟨c0, c1, c2, c3, c4, c5, c6, c7, f3, f4, f5, f6, f7⟩ := h.facts
  have H := Lib.hid h
  clear h
  cases ho : s.on with
  | false =>
    have E : Hid (s.tick = (false, s)) := by unfold Hid Sd.tick; rw [ho]; rfl
    have FF : Hid (freeB s.typ = freeB s.typ) := rfl
    rw [ho] at c3
    clear ho
    go_enter Try.func22, Try.ntmps22
    go_wp2_with ((with_reducible refine (free_any s.typ _ FF.out _).mono ?_); rintro e w' ⟨rfl, rfl⟩)
    go_ret
    unfold BoolPost
    rw [E.out]
    exact ⟨rfl, H.out, Keep.refl _ _⟩
  | true =>
    cases hf : freeB s.typ with
    | false =>
      have E : Hid (s.tick = (false, s)) := by unfold Hid Sd.tick; rw [ho, hf]; rfl
      have FF := Lib.hid hf
      rw [ho] at c3
      clear ho hf
      go_enter Try.func22, Try.ntmps22
      go_wp2_with ((with_reducible refine (free_any s.typ _ FF.out _).mono ?_); rintro e w' ⟨rfl, rfl⟩)
      go_ret
      unfold BoolPost
      rw [E.out]
      exact ⟨rfl, H.out, Keep.refl _ _⟩
    | true =>
      have FF := Lib.hid hf
      by_cases hq : 0 < s.quiet
      · have b1 : decide (0 < s.quiet) = true := decide_eq_true hq
        by_cases hz : s.quiet - 1 = 0
        · have b2 : (s.quiet - 1 == 0) = true := by simp [hz]
          cases hw : s.waits with
          | true =>
            rw [hw] at c4
            have E : Hid (s.tick = (true, Sd.sent { s with since := s.since + 1, quiet := (s.quiet - 1) })) := by
              unfold Hid Sd.tick
              rw [ho, hf, if_pos (by rfl)]
              simp [*]
            rw [ho] at c3
            have HO := Lib.hid ho
            clear hf ho
            go_enter Try.func22, Try.ntmps22
            go_wp2_with ((with_reducible refine (free_any s.typ _ FF.out _).mono ?_); rintro e w' ⟨rfl, rfl⟩)
            go_quiet (fail)
            go_wp2_with fail
            refine (sends_any (s := { s with since := s.since + 1, quiet := (s.quiet - 1) }) (by
              apply Blk.cast
              · repeat (first | (with_reducible first | apply Blk.set | apply Blk.drewN | apply Blk.drew) | exact H.out)
              · simp [Sd.cells, *])).mono ?_
            rintro e w2 ⟨rfl, h2, k2⟩
            have P : Hid (IsSd w2 g (Sd.sent { s with since := s.since + 1, quiet := (s.quiet - 1) }) ∧ Keep (One g) w w2) := ⟨h2, Keep.trans (by repeat (with_reducible first | exact Keep.refl (One g) w | apply Keep.set1 | apply Keep.drewN | apply Keep.drew)) k2 (fun i hi => .inl hi)⟩
            clear h2 k2
            go_wp2
            go_ret
            unfold BoolPost
            rw [E.out]
            exact ⟨rfl, P.out.1, P.out.2⟩
          | false =>
            rw [hw] at c4
            by_cases he : 0 < s.ev
            · have b4 : decide (0 < s.ev) = true := decide_eq_true he
              by_cases hs : s.ev ≤ s.since + 1
              · have b5 : decide (s.ev ≤ s.since + 1) = true := decide_eq_true hs
                have E : Hid (s.tick = (true, Sd.sent { s with since := s.since + 1, quiet := (s.quiet - 1) })) := by
                  unfold Hid Sd.tick
                  rw [ho, hf, if_pos (by rfl)]
                  simp [*]
                rw [ho] at c3
                have HO := Lib.hid ho
                clear hf ho
                go_enter Try.func22, Try.ntmps22
                go_wp2_with ((with_reducible refine (free_any s.typ _ FF.out _).mono ?_); rintro e w' ⟨rfl, rfl⟩)
                go_quiet (fail)
                go_wp2_with fail
                refine (sends_any (s := { s with since := s.since + 1, quiet := (s.quiet - 1) }) (by
                  apply Blk.cast
                  · repeat (first | (with_reducible first | apply Blk.set | apply Blk.drewN | apply Blk.drew) | exact H.out)
                  · simp [Sd.cells, *])).mono ?_
                rintro e w2 ⟨rfl, h2, k2⟩
                have P : Hid (IsSd w2 g (Sd.sent { s with since := s.since + 1, quiet := (s.quiet - 1) }) ∧ Keep (One g) w w2) := ⟨h2, Keep.trans (by repeat (with_reducible first | exact Keep.refl (One g) w | apply Keep.set1 | apply Keep.drewN | apply Keep.drew)) k2 (fun i hi => .inl hi)⟩
                clear h2 k2
                go_wp2
                go_ret
                unfold BoolPost
                rw [E.out]
                exact ⟨rfl, P.out.1, P.out.2⟩
              · have b5 : decide (s.ev ≤ s.since + 1) = false := decide_eq_false hs
                have E : Hid (s.tick = (false, { s with since := s.since + 1, quiet := (s.quiet - 1) })) := by
                  unfold Hid Sd.tick
                  rw [ho, hf, if_pos (by rfl)]
                  simp [*]
                rw [ho] at c3
                have HO := Lib.hid ho
                clear hf ho
                go_enter Try.func22, Try.ntmps22
                go_wp2_with ((with_reducible refine (free_any s.typ _ FF.out _).mono ?_); rintro e w' ⟨rfl, rfl⟩)
                go_quiet (fail)
                go_wp2
                go_ret
                unfold BoolPost
                rw [E.out]
                refine ⟨rfl, ?_, ?_⟩
                · apply Blk.cast
                  · repeat (first | (with_reducible first | apply Blk.set | apply Blk.drewN | apply Blk.drew) | exact H.out)
                  · simp [Sd.cells, *]
                · repeat (with_reducible first | exact Keep.refl _ _ | apply Keep.set1 | apply Keep.drewN | apply Keep.drew)
            · have b4 : decide (0 < s.ev) = false := decide_eq_false he
              have E : Hid (s.tick = (false, { s with since := s.since + 1, quiet := (s.quiet - 1) })) := by
                unfold Hid Sd.tick
                rw [ho, hf, if_pos (by rfl)]
                simp [*]
              rw [ho] at c3
              have HO := Lib.hid ho
              clear hf ho
              go_enter Try.func22, Try.ntmps22
              go_wp2_with ((with_reducible refine (free_any s.typ _ FF.out _).mono ?_); rintro e w' ⟨rfl, rfl⟩)
              go_quiet (fail)
              go_wp2
              go_ret
              unfold BoolPost
              rw [E.out]
              refine ⟨rfl, ?_, ?_⟩
              · apply Blk.cast
                · repeat (first | (with_reducible first | apply Blk.set | apply Blk.drewN | apply Blk.drew) | exact H.out)
                · simp [Sd.cells, *]
              · repeat (with_reducible first | exact Keep.refl _ _ | apply Keep.set1 | apply Keep.drewN | apply Keep.drew)
        · have b2 : (s.quiet - 1 == 0) = false := by simp [hz]
          have E : Hid (s.tick = (false, { s with since := s.since + 1, quiet := (s.quiet - 1) })) := by
            unfold Hid Sd.tick
            rw [ho, hf, if_pos (by rfl)]
            simp [*]
          rw [ho] at c3
          have HO := Lib.hid ho
          clear hf ho
          go_enter Try.func22, Try.ntmps22
          go_wp2_with ((with_reducible refine (free_any s.typ _ FF.out _).mono ?_); rintro e w' ⟨rfl, rfl⟩)
          go_quiet (fail)
          go_wp2
          go_ret
          unfold BoolPost
          rw [E.out]
          refine ⟨rfl, ?_, ?_⟩
          · apply Blk.cast
            · repeat (first | (with_reducible first | apply Blk.set | apply Blk.drewN | apply Blk.drew) | exact H.out)
            · simp [Sd.cells, *]
          · repeat (with_reducible first | exact Keep.refl _ _ | apply Keep.set1 | apply Keep.drewN | apply Keep.drew)
      · have b1 : decide (0 < s.quiet) = false := decide_eq_false hq
        have hz : s.quiet = 0 := by omega
        have b2 : (s.quiet == 0) = true := by simp [hz]
        cases hw : s.waits with
        | true =>
          rw [hw] at c4
          have E : Hid (s.tick = (true, Sd.sent { s with since := s.since + 1, quiet := s.quiet })) := by
            unfold Hid Sd.tick
            rw [ho, hf, if_pos (by rfl)]
            simp [*]
          rw [ho] at c3
          have HO := Lib.hid ho
          clear hf ho
          go_enter Try.func22, Try.ntmps22
          go_wp2_with ((with_reducible refine (free_any s.typ _ FF.out _).mono ?_); rintro e w' ⟨rfl, rfl⟩)
          go_quiet (fail)
          go_wp2_with fail
          refine (sends_any (s := { s with since := s.since + 1, quiet := s.quiet }) (by
            apply Blk.cast
            · repeat (first | (with_reducible first | apply Blk.set | apply Blk.drewN | apply Blk.drew) | exact H.out)
            · simp [Sd.cells, *])).mono ?_
          rintro e w2 ⟨rfl, h2, k2⟩
          have P : Hid (IsSd w2 g (Sd.sent { s with since := s.since + 1, quiet := s.quiet }) ∧ Keep (One g) w w2) := ⟨h2, Keep.trans (by repeat (with_reducible first | exact Keep.refl (One g) w | apply Keep.set1 | apply Keep.drewN | apply Keep.drew)) k2 (fun i hi => .inl hi)⟩
          clear h2 k2
          go_wp2
          go_ret
          unfold BoolPost
          rw [E.out]
          exact ⟨rfl, P.out.1, P.out.2⟩
        | false =>
          rw [hw] at c4
          by_cases he : 0 < s.ev
          · have b4 : decide (0 < s.ev) = true := decide_eq_true he
            by_cases hs : s.ev ≤ s.since + 1
            · have b5 : decide (s.ev ≤ s.since + 1) = true := decide_eq_true hs
              have E : Hid (s.tick = (true, Sd.sent { s with since := s.since + 1, quiet := s.quiet })) := by
                unfold Hid Sd.tick
                rw [ho, hf, if_pos (by rfl)]
                simp [*]
              rw [ho] at c3
              have HO := Lib.hid ho
              clear hf ho
              go_enter Try.func22, Try.ntmps22
              go_wp2_with ((with_reducible refine (free_any s.typ _ FF.out _).mono ?_); rintro e w' ⟨rfl, rfl⟩)
              go_quiet (fail)
              go_wp2_with fail
              refine (sends_any (s := { s with since := s.since + 1, quiet := s.quiet }) (by
                apply Blk.cast
                · repeat (first | (with_reducible first | apply Blk.set | apply Blk.drewN | apply Blk.drew) | exact H.out)
                · simp [Sd.cells, *])).mono ?_
              rintro e w2 ⟨rfl, h2, k2⟩
              have P : Hid (IsSd w2 g (Sd.sent { s with since := s.since + 1, quiet := s.quiet }) ∧ Keep (One g) w w2) := ⟨h2, Keep.trans (by repeat (with_reducible first | exact Keep.refl (One g) w | apply Keep.set1 | apply Keep.drewN | apply Keep.drew)) k2 (fun i hi => .inl hi)⟩
              clear h2 k2
              go_wp2
              go_ret
              unfold BoolPost
              rw [E.out]
              exact ⟨rfl, P.out.1, P.out.2⟩
            · have b5 : decide (s.ev ≤ s.since + 1) = false := decide_eq_false hs
              have E : Hid (s.tick = (false, { s with since := s.since + 1, quiet := s.quiet })) := by
                unfold Hid Sd.tick
                rw [ho, hf, if_pos (by rfl)]
                simp [*]
              rw [ho] at c3
              have HO := Lib.hid ho
              clear hf ho
              go_enter Try.func22, Try.ntmps22
              go_wp2_with ((with_reducible refine (free_any s.typ _ FF.out _).mono ?_); rintro e w' ⟨rfl, rfl⟩)
              go_quiet (fail)
              go_wp2
              go_ret
              unfold BoolPost
              rw [E.out]
              refine ⟨rfl, ?_, ?_⟩
              · apply Blk.cast
                · repeat (first | (with_reducible first | apply Blk.set | apply Blk.drewN | apply Blk.drew) | exact H.out)
                · simp [Sd.cells, *]
              · repeat (with_reducible first | exact Keep.refl _ _ | apply Keep.set1 | apply Keep.drewN | apply Keep.drew)
          · have b4 : decide (0 < s.ev) = false := decide_eq_false he
            have E : Hid (s.tick = (false, { s with since := s.since + 1, quiet := s.quiet })) := by
              unfold Hid Sd.tick
              rw [ho, hf, if_pos (by rfl)]
              simp [*]
            rw [ho] at c3
            have HO := Lib.hid ho
            clear hf ho
            go_enter Try.func22, Try.ntmps22
            go_wp2_with ((with_reducible refine (free_any s.typ _ FF.out _).mono ?_); rintro e w' ⟨rfl, rfl⟩)
            go_quiet (fail)
            go_wp2
            go_ret
            unfold BoolPost
            rw [E.out]
            refine ⟨rfl, ?_, ?_⟩
            · apply Blk.cast
              · repeat (first | (with_reducible first | apply Blk.set | apply Blk.drewN | apply Blk.drew) | exact H.out)
              · simp [Sd.cells, *]
            · repeat (with_reducible first | exact Keep.refl _ _ | apply Keep.set1 | apply Keep.drewN | apply Keep.drew)
end Go.Proofs.Ytcgnkabblmoboaa.Pdo
