/- One thing that happens, to the program's sender and to the document's. -/
import Derived.Test.YtcgnkabblmoboaaPdoD
namespace Go.Proofs.Ytcgnkabblmoboaa.Pdo
open Go.RowKit Go.Proofs.Ytcgnkabblmoboaa.Own
def Two (g f : Nat) : Nat → Prop := fun k => k = g ∨ k = f
def Sd.act (s : Sd) (k : Int) (b : Bool) : Bool × Sd := if k = 0 then s.event else if k = 1 then s.sync else if k = 2 then s.tick else if k = 3 then (false, s.start b) else (false, s)
def Rs.act (s : Rs) (k : Int) (b : Bool) : Bool × Rs := if k = 0 then s.event else if k = 1 then s.sync else if k = 2 then s.tick else if k = 3 then (false, s.start b) else (false, s)
structure Bds (s : Sd) (d : Rs) : Prop where
  t0 : 0 ≤ s.typ
  t1 : s.typ ≤ 255
  y0 : 0 ≤ s.syncs
  y1 : s.syncs ≤ 255
  k0 : 0 ≤ s.since
  k1 : s.since ≤ 4611686018427387904
  q0 : 0 ≤ s.quiet
  q1 : s.quiet ≤ 4294967296
  dt : d.typ = s.typ
  dy0 : 0 ≤ d.syncs
  dy1 : d.syncs ≤ 4611686018427387904
  dk0 : 0 ≤ d.since
  dk1 : d.since ≤ 4611686018427387904
def DoesPost (w : World) (g f : Nat) (r : Bool × Sd) (q : Bool × Rs) (e : Ending) (w' : World) : Prop := e = .returned (.tuple #[.bool r.1, .bool q.1]) ∧ IsSd w' g r.2 ∧ IsRs w' f q.2 ∧ Keep (Two g f) w w'
set_option maxHeartbeats 4000000 in
theorem does_any {w : World} {g f : Nat} {s : Sd} {d : Rs} (h : IsSd w g s) (hd : IsRs w f d) (hn : g ≠ f) (hb : Bds s d) (k : Int) (b : Bool) (t : Int) (t0 : 0 ≤ t) (t1 : t ≤ 255) :
    Calls Try.prog 19 #[.pointer (some ⟨g, 0, none⟩), .pointer (some ⟨f, 0, none⟩), .agg #[.int .i64 k, .bool b, .int .u8 t]] w (DoesPost w g f (s.act k b) (d.act k b)) := by
  have H := Lib.hid h
  have HD := Lib.hid hd
  have HN := Lib.hid hn
  have HB := Lib.hid hb
  clear h hd hn hb
  by_cases h0 : k = 0
  · subst h0
    have E1 : Hid (s.act 0 b = s.event) := Lib.hid rfl
    have E2 : Hid (d.act 0 b = d.event) := Lib.hid rfl
    go_enter Try.func19, Try.ntmps19
    go_wp2_with fail
    refine (Event_any (H.out.alloc (.cells #[.int .i64 0, .bool b, .int .u8 t] 49))).mono ?_
    rintro e w1 ⟨rfl, h1, k1⟩
    have S1 := Lib.hid h1
    have D1 := Lib.hid ((HD.out.alloc (.cells #[.int .i64 0, .bool b, .int .u8 t] 49)).keep k1 (fun e => HN.out (by unfold Own.One at e; exact e.symm)))
    have L1 : Hid (Blk w1 w.heap.size #[.int .i64 0, .bool b, .int .u8 t] 49) := Lib.hid ((Blk.new w _ _).keep k1 (fun e => by unfold Own.One at e; have := H.out.lt; omega))
    have K1 : Hid (Keep (Two g f) w w1) := Lib.hid (((Keep.refl (Two g f) w).alloc _).trans k1 (fun i hi => .inl (.inl hi)))
    have l0 := L1.out.cell 0
    have l1 := L1.out.cell 1
    have l2 := L1.out.cell 2
    clear h1 k1
    go_wp2_with fail
    refine (REvent_any D1.out).mono ?_
    rintro e w2 ⟨rfl, h2, k2⟩
    have S2 := Lib.hid (S1.out.keep k2 (fun e => HN.out e))
    have D2 := Lib.hid h2
    have K2 : Hid (Keep (Two g f) w w2) := Lib.hid (K1.out.trans k2 (fun i hi => .inl (.inr hi)))
    clear h2 k2 l0 l1 l2
    go_wp2
    go_ret2
    unfold DoesPost
    rw [E1.out, E2.out]
    exact ⟨rfl, S2.out, D2.out, K2.out⟩
  · have c0 : (k == 0) = false := by simp [h0]
    by_cases h1 : k = 1
    · subst h1
      have E1 : Hid (s.act 1 b = s.sync) := Lib.hid rfl
      have E2 : Hid (d.act 1 b = d.sync) := Lib.hid rfl
      go_enter Try.func19, Try.ntmps19
      go_wp2_with fail
      refine (Sync_any (H.out.alloc (.cells #[.int .i64 1, .bool b, .int .u8 t] 49)) HB.out.t0 HB.out.t1 HB.out.y0 HB.out.y1 _).mono ?_
      rintro e w1 ⟨rfl, h1, k1⟩
      have S1 := Lib.hid h1
      have D1 := Lib.hid ((HD.out.alloc (.cells #[.int .i64 1, .bool b, .int .u8 t] 49)).keep k1 (fun e => HN.out (by unfold Own.One at e; exact e.symm)))
      have L1 : Hid (Blk w1 w.heap.size #[.int .i64 1, .bool b, .int .u8 t] 49) := Lib.hid ((Blk.new w _ _).keep k1 (fun e => by unfold Own.One at e; have := H.out.lt; omega))
      have K1 : Hid (Keep (Two g f) w w1) := Lib.hid (((Keep.refl (Two g f) w).alloc _).trans k1 (fun i hi => .inl (.inl hi)))
      have l0 := L1.out.cell 0
      have l1 := L1.out.cell 1
      have l2 := L1.out.cell 2
      clear h1 k1
      go_wp2_with fail
      refine (RSync_any D1.out (by have := HB.out.dt; have := HB.out.t0; omega) (by have := HB.out.dt; have := HB.out.t1; omega) HB.out.dy0 HB.out.dy1).mono ?_
      rintro e w2 ⟨rfl, h2, k2⟩
      have S2 := Lib.hid (S1.out.keep k2 (fun e => HN.out e))
      have D2 := Lib.hid h2
      have K2 : Hid (Keep (Two g f) w w2) := Lib.hid (K1.out.trans k2 (fun i hi => .inl (.inr hi)))
      clear h2 k2 l0 l1 l2
      go_wp2
      go_ret2
      unfold DoesPost
      rw [E1.out, E2.out]
      exact ⟨rfl, S2.out, D2.out, K2.out⟩
    · have c1 : (k == 1) = false := by simp [h1]
      by_cases h2 : k = 2
      · subst h2
        have E1 : Hid (s.act 2 b = s.tick) := Lib.hid rfl
        have E2 : Hid (d.act 2 b = d.tick) := Lib.hid rfl
        go_enter Try.func19, Try.ntmps19
        go_wp2_with fail
        refine (Tick_any (H.out.alloc (.cells #[.int .i64 2, .bool b, .int .u8 t] 49)) HB.out.k0 HB.out.k1 HB.out.q0 HB.out.q1).mono ?_
        rintro e w1 ⟨rfl, h1, k1⟩
        have S1 := Lib.hid h1
        have D1 := Lib.hid ((HD.out.alloc (.cells #[.int .i64 2, .bool b, .int .u8 t] 49)).keep k1 (fun e => HN.out (by unfold Own.One at e; exact e.symm)))
        have L1 : Hid (Blk w1 w.heap.size #[.int .i64 2, .bool b, .int .u8 t] 49) := Lib.hid ((Blk.new w _ _).keep k1 (fun e => by unfold Own.One at e; have := H.out.lt; omega))
        have K1 : Hid (Keep (Two g f) w w1) := Lib.hid (((Keep.refl (Two g f) w).alloc _).trans k1 (fun i hi => .inl (.inl hi)))
        have l0 := L1.out.cell 0
        have l1 := L1.out.cell 1
        have l2 := L1.out.cell 2
        clear h1 k1
        go_wp2_with fail
        refine (RTick_any D1.out HB.out.dk0 HB.out.dk1).mono ?_
        rintro e w2 ⟨rfl, h2, k2⟩
        have S2 := Lib.hid (S1.out.keep k2 (fun e => HN.out e))
        have D2 := Lib.hid h2
        have K2 : Hid (Keep (Two g f) w w2) := Lib.hid (K1.out.trans k2 (fun i hi => .inl (.inr hi)))
        clear h2 k2 l0 l1 l2
        go_wp2
        go_ret2
        unfold DoesPost
        rw [E1.out, E2.out]
        exact ⟨rfl, S2.out, D2.out, K2.out⟩
      · have c2 : (k == 2) = false := by simp [h2]
        by_cases h3 : k = 3
        · subst h3
          have E1 : Hid (s.act 3 b = (false, s.start b)) := Lib.hid rfl
          have E2 : Hid (d.act 3 b = (false, d.start b)) := Lib.hid rfl
          go_enter Try.func19, Try.ntmps19
          go_wp2_with fail
          refine (Start_any (H.out.alloc (.cells #[.int .i64 3, .bool b, .int .u8 t] 49)) b).mono ?_
          rintro e w1 ⟨rfl, h1, k1⟩
          have S1 := Lib.hid h1
          have D1 := Lib.hid ((HD.out.alloc (.cells #[.int .i64 3, .bool b, .int .u8 t] 49)).keep k1 (fun e => HN.out (by unfold Own.One at e; exact e.symm)))
          have L1 : Hid (Blk w1 w.heap.size #[.int .i64 3, .bool b, .int .u8 t] 49) := Lib.hid ((Blk.new w _ _).keep k1 (fun e => by unfold Own.One at e; have := H.out.lt; omega))
          have K1 : Hid (Keep (Two g f) w w1) := Lib.hid (((Keep.refl (Two g f) w).alloc _).trans k1 (fun i hi => .inl (.inl hi)))
          have l0 := L1.out.cell 0
          have l1 := L1.out.cell 1
          have l2 := L1.out.cell 2
          clear h1 k1
          go_wp2_with fail
          refine (RStart_any D1.out b).mono ?_
          rintro e w2 ⟨rfl, h2, k2⟩
          have S2 := Lib.hid (S1.out.keep k2 (fun e => HN.out e))
          have D2 := Lib.hid h2
          have K2 : Hid (Keep (Two g f) w w2) := Lib.hid (K1.out.trans k2 (fun i hi => .inl (.inr hi)))
          clear h2 k2 l0 l1 l2
          go_wp2
          go_ret2
          unfold DoesPost
          rw [E1.out, E2.out]
          exact ⟨rfl, S2.out, D2.out, K2.out⟩
        · have c3 : (k == 3) = false := by simp [h3]
          have E1 : Hid (s.act k b = (false, s)) := by unfold Hid Sd.act; rw [if_neg h0, if_neg h1, if_neg h2, if_neg h3]
          have E2 : Hid (d.act k b = (false, d)) := by unfold Hid Rs.act; rw [if_neg h0, if_neg h1, if_neg h2, if_neg h3]
          clear h0 h1 h2 h3
          go_enter Try.func19, Try.ntmps19
          go_wp2
          go_ret2
          unfold DoesPost
          rw [E1.out, E2.out]
          exact ⟨rfl, H.out.alloc _, HD.out.alloc _, (Keep.refl _ _).alloc _⟩
end Go.Proofs.Ytcgnkabblmoboaa.Pdo
