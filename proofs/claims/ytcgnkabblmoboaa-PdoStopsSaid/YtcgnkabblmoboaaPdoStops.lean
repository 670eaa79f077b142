/- PdoStops's walk. -/
import Derived.Test.YtcgnkabblmoboaaPdoSends
namespace Go.Proofs.Ytcgnkabblmoboaa.Pdo
open Go.RowKit Go.Proofs.Ytcgnkabblmoboaa.Own
def Same (s : Sd) (t i v : Int) : Prop := s.typ = t ∧ s.inh = i ∧ s.ev = v
theorem Same.act {s : Sd} {t i v : Int} (h : Same s t i v) (k : Int) (b : Bool) : Same (s.act k b).2 t i v := by
  obtain ⟨rfl, rfl, rfl⟩ := h
  simp only [Sd.act, Sd.event, Sd.sync, Sd.tick, Sd.start, Sd.sent]
  repeat' split
  all_goals exact ⟨rfl, rfl, rfl⟩
theorem Same.start {s : Sd} {t i v : Int} (h : Same s t i v) (b : Bool) : Same (s.start b) t i v := by
  obtain ⟨rfl, rfl, rfl⟩ := h
  simp only [Sd.start]
  repeat' split
  all_goals exact ⟨rfl, rfl, rfl⟩
theorem Same.anew {s : Sd} {t i v : Int} (h : Same s t i v) : (s.start false).start true = (Sd.new t i v).start true := by
  obtain ⟨rfl, rfl, rfl⟩ := h
  simp [Sd.start, Sd.new]
structure RB (d : Rs) (t n : Int) : Prop where
  t : d.typ = t
  y0 : 0 ≤ d.syncs
  y1 : d.syncs ≤ n
  k0 : 0 ≤ d.since
  k1 : d.since ≤ n
theorem RB.act {d : Rs} {t n : Int} (h : RB d t n) (k : Int) (b : Bool) : RB (d.act k b).2 t (n + 1) := by
  obtain ⟨rfl, y0, y1, k0, k1⟩ := h
  simp only [Rs.act, Rs.event, Rs.sync, Rs.tick, Rs.start, Rs.gone]
  repeat' split
  all_goals (constructor <;> simp only <;> first | rfl | omega)
theorem Rel.rb {s : Sd} {d : Rs} {n : Int} (h : Rel s d n) : RB d s.typ n := ⟨h.dt, h.dy0, h.dy1, h.dk0, h.dk1⟩
theorem RB.bds {s : Sd} {d d0 : Rs} {n m : Int} (h : Rel s d0 n) (hn : n ≤ 4611686018427387904) (r : RB d s.typ m) (hm : m ≤ 4611686018427387904) : Bds s d := by
  have hb := h.bds hn
  exact { t0 := hb.t0, t1 := hb.t1, y0 := hb.y0, y1 := hb.y1, k0 := hb.k0, k1 := hb.k1, q0 := hb.q0, q1 := hb.q1, dt := r.t, dy0 := r.y0, dy1 := Int.le_trans r.y1 hm, dk0 := r.k0, dk1 := Int.le_trans r.k1 hm }
theorem off_event {s : Sd} (h : s.on = false) : s.event = (false, s) := by simp [Sd.event, h]
theorem off_sync {s : Sd} (h : s.on = false) : s.sync = (false, s) := by simp [Sd.sync, h]
theorem off_tick {s : Sd} (h : s.on = false) : s.tick = (false, s) := by simp [Sd.tick, h]
theorem BoolPost.is {w w' : World} {g : Nat} {r : Bool × Sd} {q : Bool × Sd} {e : Ending} (h : BoolPost w g r e w') (hq : r = q) : e = .returned (.bool q.1) ∧ IsSd w' g q.2 ∧ Keep (One g) w w' := hq ▸ h
set_option maxHeartbeats 8000000 in
theorem stops_walk (t i v : Int) (i0 : 0 ≤ i) (A C : Option Addr) (c n : Nat) (acts more : List PAct) (w : World) (ha : ActsAt w A acts) (hc : ActsAt w C more) (hl : acts.length ≤ 140737488355328) (hm : more.length ≤ 140737488355328) :
    Calls Try.prog 6 #[formV t i v, .slice A acts.length c, .slice C more.length n] w fun e w' => e = .returned (.bool true) ∧ Keep Zero w w' := by
  unfold formV
  have HA := Lib.hid ha
  have HC := Lib.hid hc
  clear ha hc
  obtain ⟨ok, hok⟩ : ∃ ok, okB t i v = ok := ⟨_, rfl⟩
  have HO := Lib.hid hok
  clear hok
  cases ok with
  | false =>
    go_enter Try.func6, Try.ntmps6
    go_wp2_with fail
    refine (New_bad t i v HO.out _).mono ?_
    rintro e w1 ⟨rfl, h1⟩
    have B1 : Hid (Blk w1 w.heap.size #[.int .i64 t, .int .u64 i, .int .u64 v] 39) := Lib.hid ((Blk.new w _ _).keep h1 id)
    have K1 : Hid (Keep Zero w w1) := ((Keep.refl Zero w).alloc _).trans h1 (fun i hi => hi.elim)
    clear h1
    have d0 := B1.out.cell 0
    have d1 := B1.out.cell 1
    have d2 := B1.out.cell 2
    go_wp2_with fail
    refine (New_bad t i v HO.out _).mono ?_
    rintro e w2 ⟨rfl, h1⟩
    have K2 : Hid (Keep Zero w w2) := K1.out.trans h1 (fun i hi => hi.elim)
    clear h1 d0 d1 d2 B1 K1
    go_wp2_with ((with_reducible refine (lives_any _).mono ?_); rintro e w' ⟨rfl, hk⟩)
    go_ret
    rename_i hk
    exact ⟨rfl, K2.out.trans hk.out (fun i hi => hi.elim)⟩
  | true =>
    go_enter Try.func6, Try.ntmps6
    go_wp2_with fail
    refine (New_ok t i v HO.out _).mono ?_
    rintro e w1 ⟨g, rfl, hs, hg, h1⟩
    have B1 : Hid (Blk w1 w.heap.size #[.int .i64 t, .int .u64 i, .int .u64 v] 39) := Lib.hid ((Blk.new w _ _).keep h1 id)
    have K1 : Hid (Keep Zero w w1) := ((Keep.refl Zero w).alloc _).trans h1 (fun i hi => hi.elim)
    have S1 := Lib.hid hs
    have HG : Hid (w.heap.size + 1 ≤ g) := Lib.hid (by simpa using hg)
    clear h1 hs hg
    have d0 := B1.out.cell 0
    have d1 := B1.out.cell 1
    have d2 := B1.out.cell 2
    go_wp2_with fail
    refine (New_ok t i v HO.out _).mono ?_
    rintro e w2 ⟨h, rfl, hs, hg, h1⟩
    have B2 := Lib.hid (B1.out.keep h1 id)
    have S2 := Lib.hid (S1.out.keep h1 id)
    have V2 := Lib.hid hs
    have K2 : Hid (Keep Zero w w2) := K1.out.trans h1 (fun i hi => hi.elim)
    have L2 : Hid (g < h) := Lib.hid (Nat.lt_of_lt_of_le S1.out.lt hg)
    clear h1 hs hg d0 d1 d2 B1 K1 S1
    have d0 := B2.out.cell 0
    have d1 := B2.out.cell 1
    have d2 := B2.out.cell 2
    go_wp2_with fail
    obtain ⟨f, hf⟩ : ∃ f, f = w2.heap.size := ⟨_, rfl⟩
    have R3 : Hid (IsRs (w2.alloc (.cells (Rs.new t i v).cells 47)) f (Rs.new t i v)) := Lib.hid (Blk.at_ hf)
    have S3 : Hid (IsSd (w2.alloc (.cells (Rs.new t i v).cells 47)) g (Sd.new t i v)) := Lib.hid (S2.out.alloc _)
    have V3 : Hid (IsSd (w2.alloc (.cells (Rs.new t i v).cells 47)) h (Sd.new t i v)) := Lib.hid (V2.out.alloc _)
    have K3 := Lib.hid (K2.out.alloc (.cells (Rs.new t i v).cells 47))
    have L3 : Hid (h < f) := Lib.hid (hf ▸ V2.out.lt)
    rw [← hf]
    clear hf d0 d1 d2 B2 S2 V2 K2
    have HW : Hid (w.heap.size ≤ g ∧ g < h ∧ h < f) := Lib.hid ⟨by have := HG.out; omega, L2.out, L3.out⟩
    refine (Start_any S3.out true).mono ?_
    rintro e w4 ⟨rfl, hs, hk⟩
    have S4 := Lib.hid hs
    have V4 := Lib.hid (V3.out.keep hk (fun e => by have := HW.out; unfold Own.One at e; omega))
    have R4 := Lib.hid (R3.out.keep hk (fun e => by have := HW.out; unfold Own.One at e; omega))
    have K4 := Lib.hid (K3.out.trans hk (fun i hi => .inr (by have := HW.out; unfold Own.One at hi; omega)))
    clear hs hk S3 V3 R3 K3
    go_wp2_with fail
    go_loopg [12] acts.length (fun k i' wr => ∃ (j : Nat) (s : Sd) (d0 d : Rs), j ≤ acts.length ∧ k = acts.length - j ∧ i' = .int .i64 j ∧ IsSd wr g s ∧ IsSd wr h (Sd.new t i v) ∧ IsRs wr f d ∧ Keep Zero w wr ∧ Rel s d0 j ∧ RB d t j ∧ Same s t i v)
    case atStart => exact ⟨0, _, (Rs.new t i v).start true, _, Nat.zero_le _, rfl, rfl, S4.out, V4.out, R4.out, K4.out, (Rel.new HO.out i0).start true, (Rel.new HO.out i0).rb, Same.start ⟨rfl, rfl, rfl⟩ true⟩
    case round =>
      obtain ⟨j, s, d0, d, hj, hk, rfl, hs, hv, hd, hkp, hr, hb, hsm⟩ := hrel
      have HM := Lib.hid hk
      have HS := Lib.hid hs
      have HV := Lib.hid hv
      have HD := Lib.hid hd
      have HK := Lib.hid hkp
      have HR := Lib.hid (And.intro hr (And.intro hb hsm))
      clear hk hs hv hd hkp hr hb hsm S4 V4 R4 K4
      by_cases hlt : j < acts.length
      · obtain ⟨x, hx⟩ : ∃ x, acts[j]? = some x := ⟨acts[j], List.getElem?_eq_getElem hlt⟩
        obtain ⟨b, o, rfl, hb, hc0, hc1, hc2, x0, x1⟩ := HA.out j x hx
        have hc0' := ((HK.out.cell (p := ⟨b, o + j * 3, none⟩) hb id).trans hc0)
        have hc1' := ((HK.out.cell (p := ⟨b, o + j * 3 + 1, none⟩) hb id).trans hc1)
        have hc2' := ((HK.out.cell (p := ⟨b, o + j * 3 + 2, none⟩) hb id).trans hc2)
        have h1 : (j : Int) < (acts.length : Int) := by omega
        clear hx hc0 hc1 hc2
        go_wp2_with fail
        refine (does_any HS.out HD.out (by have := HW.out; omega) (RB.bds HR.out.1 (by omega) (HR.out.2.2.1 ▸ HR.out.2.1) (by omega)) x.kind x.on x.times x0 x1).mono ?_
        rintro e w5 ⟨rfl, hs, hd, hkp⟩
        have HS5 := Lib.hid hs
        have HV5 := Lib.hid (HV.out.keep hkp (fun e => by have := HW.out; unfold Two at e; omega))
        have HD5 := Lib.hid hd
        have HK5 := Lib.hid (HK.out.trans hkp (fun i hi => .inr (by have := HW.out; unfold Two at hi; omega)))
        clear hs hd hkp
        go_wp2_with fail
        go_roundg (acts.length - (j + 1))
        case measure => rw [HM.out]; omega
        case rel => exact ⟨j + 1, _, (d0.act x.kind x.on).2, _, hlt, rfl, by go_num, HS5.out, HV5.out, HD5.out, HK5.out, (HR.out.1.act x.kind x.on).2, HR.out.2.1.act x.kind x.on, HR.out.2.2.act x.kind x.on⟩
      · have h1 : ¬ (j : Int) < (acts.length : Int) := by omega
        clear hlt
        go_wp2_with fail
        refine (Start_any HS.out false).mono ?_
        rintro e w4 ⟨rfl, hs, hk⟩
        have S4 := Lib.hid hs
        have V4 := Lib.hid (HV.out.keep hk (fun e => by have := HW.out; unfold Own.One at e; omega))
        have R4 := Lib.hid (HD.out.keep hk (fun e => by have := HW.out; unfold Own.One at e; omega))
        have K4 := Lib.hid (HK.out.trans hk (fun i hi => .inr (by have := HW.out; unfold Own.One at hi; omega)))
        have hoff : (s.start false).on = false := by simp [Sd.start]
        have OFF := Lib.hid hoff
        have RS := Lib.hid (HR.out.1.start false)
        have BS := Lib.hid (RS.out.bds (by omega))
        clear hs hk hoff
        go_wp2_with fail
        refine (Event_any S4.out).mono ?_
        rintro e w5 hp
        obtain ⟨rfl, hs, hk⟩ := hp.is (off_event OFF.out)
        have S5 : Hid (IsSd w5 g (s.start false)) := Lib.hid hs
        have V5 := Lib.hid (V4.out.keep hk (fun e => by have := HW.out; unfold Own.One at e; omega))
        have R5 := Lib.hid (R4.out.keep hk (fun e => by have := HW.out; unfold Own.One at e; omega))
        have K5 := Lib.hid (K4.out.trans hk (fun i hi => .inr (by have := HW.out; unfold Own.One at hi; omega)))
        clear hs hk hp
        go_wp2_with fail
        refine (Sync_any S5.out BS.out.t0 BS.out.t1 BS.out.y0 BS.out.y1 1).mono ?_
        rintro e w6 hp
        obtain ⟨rfl, hs, hk⟩ := hp.is (off_sync OFF.out)
        have S6 : Hid (IsSd w6 g (s.start false)) := Lib.hid hs
        have V6 := Lib.hid (V5.out.keep hk (fun e => by have := HW.out; unfold Own.One at e; omega))
        have R6 := Lib.hid (R5.out.keep hk (fun e => by have := HW.out; unfold Own.One at e; omega))
        have K6 := Lib.hid (K5.out.trans hk (fun i hi => .inr (by have := HW.out; unfold Own.One at hi; omega)))
        clear hs hk hp
        go_wp2_with fail
        refine (Tick_any S6.out BS.out.k0 BS.out.k1 BS.out.q0 BS.out.q1).mono ?_
        rintro e w7 hp
        obtain ⟨rfl, hs, hk⟩ := hp.is (off_tick OFF.out)
        have S7 : Hid (IsSd w7 g (s.start false)) := Lib.hid hs
        have V7 := Lib.hid (V6.out.keep hk (fun e => by have := HW.out; unfold Own.One at e; omega))
        have R7 := Lib.hid (R6.out.keep hk (fun e => by have := HW.out; unfold Own.One at e; omega))
        have K7 := Lib.hid (K6.out.trans hk (fun i hi => .inr (by have := HW.out; unfold Own.One at hi; omega)))
        clear hs hk hp
        go_wp2_with fail
        refine (Start_any S7.out true).mono ?_
        rintro e w8 ⟨rfl, hs, hk⟩
        rw [HR.out.2.2.anew] at hs
        have S8 := Lib.hid hs
        have V8 := Lib.hid (V7.out.keep hk (fun e => by have := HW.out; unfold Own.One at e; omega))
        have R8 := Lib.hid (R7.out.keep hk (fun e => by have := HW.out; unfold Own.One at e; omega))
        have K8 := Lib.hid (K7.out.trans hk (fun i hi => .inr (by have := HW.out; unfold Own.One at hi; omega)))
        clear hs hk
        go_wp2_with fail
        refine (Start_any V8.out true).mono ?_
        rintro e w9 ⟨rfl, hs, hk⟩
        have V9 := Lib.hid hs
        have S9 := Lib.hid (S8.out.keep hk (fun e => by have := HW.out; unfold Own.One at e; omega))
        have R9 := Lib.hid (R8.out.keep hk (fun e => by have := HW.out; unfold Own.One at e; omega))
        have K9 := Lib.hid (K8.out.trans hk (fun i hi => .inr (by have := HW.out; unfold Own.One at hi; omega)))
        have RB9 := Lib.hid HR.out.2.1
        have MJ : j ≤ 140737488355328 := by omega
        clear hs hk S4 V4 R4 K4 S5 V5 R5 K5 S6 V6 R6 K6 S7 V7 R7 K7 S8 V8 R8 K8 RS BS OFF HR HS HV HD HK HM h1
        go_wp2_with fail
        go_loopg [13] more.length (fun k i' wr => ∃ (m : Nat) (s : Sd) (d0 d : Rs), m ≤ more.length ∧ k = more.length - m ∧ i' = .int .i64 m ∧ IsSd wr g s ∧ IsSd wr h s ∧ IsRs wr f d ∧ Keep Zero w wr ∧ Rel s d0 m ∧ RB d t (j + 2 * m) ∧ Same s t i v)
        case atStart => exact ⟨0, _, (Rs.new t i v).start true, _, Nat.zero_le _, rfl, rfl, S9.out, V9.out, R9.out, K9.out, (Rel.new HO.out i0).start true, by simpa using RB9.out, Same.start ⟨rfl, rfl, rfl⟩ true⟩
        case round =>
          clear S9 V9 R9 K9 RB9 s d0 d
          obtain ⟨m, s, d0, d, hmm, hk, rfl, hs, hv, hd, hkp, hr, hb, hsm⟩ := hrel
          have HM := Lib.hid hk
          have HS := Lib.hid hs
          have HV := Lib.hid hv
          have HD := Lib.hid hd
          have HK := Lib.hid hkp
          have HR := Lib.hid (And.intro hr (And.intro hb hsm))
          clear hk hs hv hd hkp hr hb hsm
          by_cases hlt : m < more.length
          · obtain ⟨x, hx⟩ : ∃ x, more[m]? = some x := ⟨more[m], List.getElem?_eq_getElem hlt⟩
            obtain ⟨b, o, rfl, hb, hc0, hc1, hc2, x0, x1⟩ := HC.out m x hx
            have hc0' := ((HK.out.cell (p := ⟨b, o + m * 3, none⟩) hb id).trans hc0)
            have hc1' := ((HK.out.cell (p := ⟨b, o + m * 3 + 1, none⟩) hb id).trans hc1)
            have hc2' := ((HK.out.cell (p := ⟨b, o + m * 3 + 2, none⟩) hb id).trans hc2)
            have h1 : (m : Int) < (more.length : Int) := by omega
            clear hx
            go_wp2_with fail
            refine (does_any HS.out HD.out (by have := HW.out; omega) (RB.bds HR.out.1 (by omega) (HR.out.2.2.1 ▸ HR.out.2.1) (by omega)) x.kind x.on x.times x0 x1).mono ?_
            rintro e w5 ⟨rfl, hs, hd, hkp⟩
            have HS5 := Lib.hid hs
            have HV5 := Lib.hid (HV.out.keep hkp (fun e => by have := HW.out; unfold Two at e; omega))
            have HD5 := Lib.hid hd
            have HK5 := Lib.hid (HK.out.trans hkp (fun i hi => .inr (by have := HW.out; unfold Two at hi; omega)))
            have HB5 := Lib.hid (HR.out.2.1.act x.kind x.on)
            have hc0' := ((HK5.out.cell (p := ⟨b, o + m * 3, none⟩) hb id).trans hc0)
            have hc1' := ((HK5.out.cell (p := ⟨b, o + m * 3 + 1, none⟩) hb id).trans hc1)
            have hc2' := ((HK5.out.cell (p := ⟨b, o + m * 3 + 2, none⟩) hb id).trans hc2)
            clear hs hd hkp hc0 hc1 hc2
            obtain ⟨d5, hd5⟩ : ∃ d5, d5 = (d.act x.kind x.on).2 := ⟨_, rfl⟩
            obtain ⟨q5, hq5⟩ : ∃ q5, q5 = (d.act x.kind x.on).1 := ⟨_, rfl⟩
            rw [← hd5] at HD5 HB5
            rw [← hq5]
            clear hd5 hq5
            go_wp2_with fail
            refine (does_any HV5.out HD5.out (by have := HW.out; omega) (RB.bds HR.out.1 (by omega) (HR.out.2.2.1 ▸ HB5.out) (by omega)) x.kind x.on x.times x0 x1).mono ?_
            rintro e w6 ⟨rfl, hs, hd, hkp⟩
            have HV6 := Lib.hid hs
            have HS6 := Lib.hid (HS5.out.keep hkp (fun e => by have := HW.out; unfold Two at e; omega))
            have HD6 := Lib.hid hd
            have HK6 := Lib.hid (HK5.out.trans hkp (fun i hi => .inr (by have := HW.out; unfold Two at hi; omega)))
            have HR6 := Lib.hid (And.intro (HR.out.1.act x.kind x.on).2 (And.intro (HB5.out.act x.kind x.on) (HR.out.2.2.act x.kind x.on)))
            clear hs hd hkp HB5
            obtain ⟨d6, hd6⟩ : ∃ d6, d6 = (d5.act x.kind x.on).2 := ⟨_, rfl⟩
            obtain ⟨s6, hs6⟩ : ∃ s6, s6 = (s.act x.kind x.on).2 := ⟨_, rfl⟩
            obtain ⟨q6, hq6⟩ : ∃ q6, q6 = (d5.act x.kind x.on).1 := ⟨_, rfl⟩
            obtain ⟨r6, hr6⟩ : ∃ r6, r6 = (s.act x.kind x.on).1 := ⟨_, rfl⟩
            rw [← hd6] at HD6 HR6
            rw [← hs6] at HS6 HV6 HR6
            rw [← hq6, ← hr6]
            clear hd6 hs6 hq6 hr6
            have br : (r6 != r6) = false := by simp
            go_wp2_with fail
            go_roundg (more.length - (m + 1))
            case measure => rw [HM.out]; omega
            case rel => exact ⟨m + 1, s6, (d0.act x.kind x.on).2, d6, hlt, rfl, by go_num, HS6.out, HV6.out, HD6.out, HK6.out, HR6.out.1, by
              have := HR6.out.2.1
              rw [show (j : Int) + 2 * (m + 1 : Nat) = j + 2 * m + 1 + 1 from by omega]
              exact this, HR6.out.2.2⟩
          · have h1 : ¬ (m : Int) < (more.length : Int) := by omega
            clear hlt
            go_wp2_with ((with_reducible refine (lives_any _).mono ?_); rintro e w' ⟨rfl, hk⟩)
            go_ret
            rename_i hk
            exact ⟨rfl, HK.out.trans hk.out (fun i hi => hi.elim)⟩
end Go.Proofs.Ytcgnkabblmoboaa.Pdo
