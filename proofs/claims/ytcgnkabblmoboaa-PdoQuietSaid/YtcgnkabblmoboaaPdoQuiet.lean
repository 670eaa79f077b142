/- PdoQuiet's walk. -/
import Derived.Test.YtcgnkabblmoboaaPdoQuietP
namespace Go.Proofs.Ytcgnkabblmoboaa.Pdo
open Go.RowKit Go.Proofs.Ytcgnkabblmoboaa.Own
set_option maxRecDepth 100000 in
set_option maxHeartbeats 8000000 in
theorem quiet_walk (t i v : Int) (i0 : 0 ≤ i) (hok : okB t i v = true) (A : Option Addr) (c : Nat) (acts : List PAct) (w : World) (ha : ActsAt w A acts) (hl : acts.length ≤ 140737488355328) :
    Calls Try.prog 4 #[formV t i v, .slice A acts.length c] w fun e w' => e = .returned (.bool true) ∧ Keep Zero w w' := by
  unfold formV
  have HA := Lib.hid ha
  have HO := Lib.hid hok
  have i1 : i ≤ 4294967296 := by unfold okB at hok; simp at hok; omega
  obtain ⟨fr, hfr⟩ : ∃ fr, freeB t = fr := ⟨_, rfl⟩
  have HFr := Lib.hid hfr
  clear ha hok hfr
  go_enter Try.func4, Try.ntmps4
  go_wp2_with fail
  refine (New_ok t i v HO.out _).mono ?_
  rintro e w1 ⟨g, rfl, hs, hg, h1⟩
  have B1 : Hid (Blk w1 w.heap.size #[.int .i64 t, .int .u64 i, .int .u64 v] 39) := Lib.hid ((Blk.new w _ _).keep h1 id)
  have K1 : Hid (Keep Zero w w1) := ((Keep.refl Zero w).alloc _).trans h1 (fun i hi => hi.elim)
  have S1 := Lib.hid hs
  have HG : Hid (w.heap.size + 1 ≤ g) := Lib.hid (by simpa using hg)
  clear h1 hs hg
  go_wp2_with fail
  refine (Start_any S1.out true).mono ?_
  rintro e w2 ⟨rfl, hs, hk⟩
  have S2 : Hid (IsSd w2 g ⟨t, i, v, true, false, 0, 0, 0⟩) := Lib.hid hs
  have B2 := Lib.hid (B1.out.keep hk (fun e => by have := HG.out; have e' : w.heap.size = g := e; omega))
  have K2 := Lib.hid (K1.out.trans hk (fun i hi => .inr (by have := HG.out; unfold Own.One at hi; omega)))
  clear hs hk S1 B1 K1
  have d0 := B2.out.cell 0
  have d1 := B2.out.cell 1
  have d2 := B2.out.cell 2
  go_wp2_with fail
  have R3 : Hid (IsRs (w2.alloc (.cells #[.int .i64 t, .int .u64 i, .int .u64 v, .bool false, .bool false, .int .u64 0, .bool false, .int .i64 0] 47)) w2.heap.size (Rs.new t i v)) := Lib.hid (Blk.new _ _ _)
  have S3 := Lib.hid (S2.out.alloc (.cells #[.int .i64 t, .int .u64 i, .int .u64 v, .bool false, .bool false, .int .u64 0, .bool false, .int .i64 0] 47))
  have B3 := Lib.hid (B2.out.alloc (.cells #[.int .i64 t, .int .u64 i, .int .u64 v, .bool false, .bool false, .int .u64 0, .bool false, .int .i64 0] 47))
  have K3 := Lib.hid (K2.out.alloc (.cells #[.int .i64 t, .int .u64 i, .int .u64 v, .bool false, .bool false, .int .u64 0, .bool false, .int .i64 0] 47))
  have L4 : Hid (g < w2.heap.size) := Lib.hid S2.out.lt
  refine (RStart_any R3.out true).mono ?_
  rintro e w4 ⟨rfl, hs, hk⟩
  have R4 : Hid (IsRs w4 w2.heap.size ⟨t, i, v, true, false, 0, false, 0⟩) := Lib.hid hs
  have S4 : Hid (IsSd w4 g ⟨t, i, v, true, false, 0, 0, 0⟩) := Lib.hid (S3.out.keep hk (fun e => by have := L4.out; have e' : g = w2.heap.size := e; omega))
  have B4 := Lib.hid (B3.out.keep hk (fun e => by have := L4.out; have := HG.out; have e' : w.heap.size = w2.heap.size := e; omega))
  have K4 := Lib.hid (K3.out.trans hk (fun i hi => .inr (by have := L4.out; have := HG.out; unfold Own.One at hi; omega)))
  clear hs hk S2 B2 K2 R3 S3 B3 K3 d0 d1 d2
  have Q4 : Hid (Qt t i ⟨t, i, v, true, false, 0, 0, 0⟩ 0 false) := Lib.hid ⟨rfl, rfl, rfl, Int.le_refl _, fun _ => by simp⟩
  have RL4 : Hid (Rel ⟨t, i, v, true, false, 0, 0, 0⟩ ⟨t, i, v, true, false, 0, false, 0⟩ 0) := Lib.hid ((Rel.new HO.out i0).start true)
  go_wp2_with fail
  go_loopg [8, 9, 10] acts.length (fun k tkv anyv iv wr => ∃ (j : Nat) (s : Sd) (d : Rs) (tk : Int) (any : Bool), j ≤ acts.length ∧ k = acts.length - j ∧ iv = .int .i64 j ∧ tkv = .int .u64 tk ∧ anyv = .bool any ∧ IsSd wr g s ∧ IsRs wr w2.heap.size d ∧ Blk wr w.heap.size #[.int .i64 t, .int .u64 i, .int .u64 v] 39 ∧ Keep Zero w wr ∧ Rel s d (j * 256) ∧ Qt t i s tk any ∧ tk ≤ j * 256)
  case atStart => exact ⟨0, _, _, 0, false, Nat.zero_le _, rfl, rfl, rfl, rfl, S4.out, R4.out, B4.out, K4.out, by simpa using RL4.out, Q4.out, by simp⟩
  case round =>
    obtain ⟨j, s, d, tk, any, hj, hk, rfl, rfl, rfl, hs, hd, hb4, hkp, hr, hq, htk⟩ := hrel
    clear S4 R4 B4 K4 RL4 Q4
    have HM := Lib.hid hk
    have HS := Lib.hid hs
    have HD := Lib.hid hd
    have HB := Lib.hid hb4
    have HK := Lib.hid hkp
    have HR := Lib.hid hr
    have HQ := Lib.hid hq
    clear hk hs hd hb4 hkp hr hq
    by_cases hlt : j < acts.length
    · obtain ⟨x, hx⟩ : ∃ x, acts[j]? = some x := ⟨acts[j], List.getElem?_eq_getElem hlt⟩
      obtain ⟨b, o, rfl, hb, hc0, hc1, hc2, x0, x1⟩ := HA.out j x hx
      have h1 : (j : Int) < (acts.length : Int) := by omega
      have hj0 : (0 : Int) ≤ (j : Int) := by omega
      clear hx
      by_cases k3 : x.kind = 3
      · have z0 := (HK.out.cell (p := ⟨b, o + j * 3, none⟩) hb id).trans hc0
        rw [k3] at z0
        clear hc0 hc1 hc2 k3
        go_wp2_with fail
        go_roundg (acts.length - (j + 1))
        case measure => rw [HM.out]; omega
        case rel => exact ⟨j + 1, s, d, tk, any, hlt, rfl, by go_num, rfl, rfl, HS.out, HD.out, HB.out, HK.out, HR.out.more (by omega), HQ.out, by omega⟩
      · have z0 := (HK.out.cell (p := ⟨b, o + j * 3, none⟩) hb id).trans hc0
        have kb3 : (x.kind == 3) = false := by simp [k3]
        go_wp2_with fail
        go_loopg [8, 9, 11] (x.times.toNat + 2) (fun k tkv anyv iv wr' => ∃ (m : Nat) (s : Sd) (d : Rs) (tk : Int) (any : Bool), m ≤ x.times.toNat + 1 ∧ k = x.times.toNat + 2 - m ∧ iv = .int .i64 m ∧ tkv = .int .u64 tk ∧ anyv = .bool any ∧ IsSd wr' g s ∧ IsRs wr' w2.heap.size d ∧ Blk wr' w.heap.size #[.int .i64 t, .int .u64 i, .int .u64 v] 39 ∧ Keep Zero w wr' ∧ Rel s d (j * 256 + m) ∧ Qt t i s tk any ∧ tk ≤ j * 256 + m)
        case atStart => exact ⟨0, _, _, tk, any, Nat.zero_le _, rfl, rfl, rfl, rfl, HS.out, HD.out, HB.out, HK.out, by simpa using HR.out, HQ.out, by simpa using htk⟩
        case round =>
          clear HS HD HK HR HB HQ z0 s d htk tk any
          obtain ⟨m, s, d, tk, any, hm, hk, rfl, rfl, rfl, hs, hd, hb4, hkp, hr, hq, htk⟩ := hrel
          have HN := Lib.hid hk
          have HS := Lib.hid hs
          have HD := Lib.hid hd
          have HB := Lib.hid hb4
          have HK := Lib.hid hkp
          have HR := Lib.hid hr
          have HQ := Lib.hid hq
          have hc0' := ((HK.out.cell (p := ⟨b, o + j * 3, none⟩) hb id).trans hc0)
          have hc1' := ((HK.out.cell (p := ⟨b, o + j * 3 + 1, none⟩) hb id).trans hc1)
          have hc2' := ((HK.out.cell (p := ⟨b, o + j * 3 + 2, none⟩) hb id).trans hc2)
          have tk0 := HQ.out.t0
          clear hk hs hd hb4 hkp hr hq
          by_cases hmt : (m : Int) ≤ x.times
          · by_cases k2 : x.kind = 2
            · have kb2 : (x.kind == 2) = true := by simp [k2]
              have HK2 := Lib.hid k2
              clear k2
              go_wp2_with fail
              refine (does_any HS.out HD.out (by have := L4.out; omega) (HR.out.bds (by omega)) x.kind x.on x.times x0 x1).mono ?_
              rintro e w5 hdp
              obtain ⟨r, s', d', rfl, hs, hd, hkp, hr, hq1, hq2⟩ := hdp.qt HR.out HQ.out i0 k3 (tk + 1) (by unfold qticks; rw [if_pos HK2.out])
              have HS5 := Lib.hid hs
              have HD5 := Lib.hid hd
              have HB5 := Lib.hid (HB.out.keep hkp (fun e => by have := HG.out; have := L4.out; unfold Two at e; omega))
              have HK5 := Lib.hid (HK.out.trans hkp (fun i hi => .inr (by have := HG.out; have := L4.out; unfold Two at hi; omega)))
              have HR5 : Hid (Rel s' d' ((j : Int) * 256 + (m + 1))) := Lib.hid (by rw [← Int.add_assoc]; exact hr)
              have bf0 := HB5.out.cell 0
              have bf1 := HB5.out.cell 1
              clear hs hd hkp hr hdp HS HD HK HR HQ HB
              cases r with
              | false =>
                have HQ5 : Hid (Qt t i s' (tk + 1) any) := Lib.hid (by simpa using hq2)
                clear hq1 hq2
                go_wp2_with fail
                go_roundg (x.times.toNat + 2 - (m + 1))
                case measure => rw [HN.out]; omega
                case rel => exact ⟨m + 1, s', d', (tk + 1), any, by omega, rfl, by go_num, rfl, rfl, HS5.out, HD5.out, HB5.out, HK5.out, HR5.out, HQ5.out, by omega⟩
              | true =>
                cases fr with
                | false =>
                  have HQ5 : Hid (Qt t i s' (tk + 1) any) := Lib.hid (by rw [HFr.out] at hq2; simpa using hq2)
                  clear hq1 hq2
                  go_wp2_with ((with_reducible refine (RFree_any t _ HFr.out _).mono ?_); rintro e w' ⟨rfl, rfl⟩)
                  go_roundg (x.times.toNat + 2 - (m + 1))
                  case measure => rw [HN.out]; omega
                  case rel => exact ⟨m + 1, s', d', (tk + 1), any, by omega, rfl, by go_num, rfl, rfl, HS5.out, HD5.out, HB5.out, HK5.out, HR5.out, HQ5.out, by omega⟩
                | true =>
                  have HQ5 : Hid (Qt t i s' 0 true) := Lib.hid (by rw [HFr.out] at hq2; simpa using hq2)
                  have hq3 := hq1 rfl HFr.out
                  cases any with
                  | false =>
                    clear hq1 hq2 hq3
                    go_wp2_with ((with_reducible refine (RFree_any t _ HFr.out _).mono ?_); rintro e w' ⟨rfl, rfl⟩)
                    go_roundg (x.times.toNat + 2 - (m + 1))
                    case measure => rw [HN.out]; omega
                    case rel => exact ⟨m + 1, s', d', 0, true, by omega, rfl, by go_num, rfl, rfl, HS5.out, HD5.out, HB5.out, HK5.out, HR5.out, HQ5.out, by omega⟩
                  | true =>
                    have bq : decide ((tk + 1) < i) = false := decide_eq_false (fun h => hq3 ⟨rfl, h⟩)
                    clear hq1 hq2 hq3
                    go_wp2_with ((with_reducible refine (RFree_any t _ HFr.out _).mono ?_); rintro e w' ⟨rfl, rfl⟩)
                    go_roundg (x.times.toNat + 2 - (m + 1))
                    case measure => rw [HN.out]; omega
                    case rel => exact ⟨m + 1, s', d', 0, true, by omega, rfl, by go_num, rfl, rfl, HS5.out, HD5.out, HB5.out, HK5.out, HR5.out, HQ5.out, by omega⟩
            · have kb2 : (x.kind == 2) = false := by simp [k2]
              have HK2 := Lib.hid k2
              clear k2
              go_wp2_with fail
              refine (does_any HS.out HD.out (by have := L4.out; omega) (HR.out.bds (by omega)) x.kind x.on x.times x0 x1).mono ?_
              rintro e w5 hdp
              obtain ⟨r, s', d', rfl, hs, hd, hkp, hr, hq1, hq2⟩ := hdp.qt HR.out HQ.out i0 k3 tk (by unfold qticks; rw [if_neg HK2.out])
              have HS5 := Lib.hid hs
              have HD5 := Lib.hid hd
              have HB5 := Lib.hid (HB.out.keep hkp (fun e => by have := HG.out; have := L4.out; unfold Two at e; omega))
              have HK5 := Lib.hid (HK.out.trans hkp (fun i hi => .inr (by have := HG.out; have := L4.out; unfold Two at hi; omega)))
              have HR5 : Hid (Rel s' d' ((j : Int) * 256 + (m + 1))) := Lib.hid (by rw [← Int.add_assoc]; exact hr)
              have bf0 := HB5.out.cell 0
              have bf1 := HB5.out.cell 1
              clear hs hd hkp hr hdp HS HD HK HR HQ HB
              cases r with
              | false =>
                have HQ5 : Hid (Qt t i s' tk any) := Lib.hid (by simpa using hq2)
                clear hq1 hq2
                go_wp2_with fail
                go_roundg (x.times.toNat + 2 - (m + 1))
                case measure => rw [HN.out]; omega
                case rel => exact ⟨m + 1, s', d', tk, any, by omega, rfl, by go_num, rfl, rfl, HS5.out, HD5.out, HB5.out, HK5.out, HR5.out, HQ5.out, by omega⟩
              | true =>
                cases fr with
                | false =>
                  have HQ5 : Hid (Qt t i s' tk any) := Lib.hid (by rw [HFr.out] at hq2; simpa using hq2)
                  clear hq1 hq2
                  go_wp2_with ((with_reducible refine (RFree_any t _ HFr.out _).mono ?_); rintro e w' ⟨rfl, rfl⟩)
                  go_roundg (x.times.toNat + 2 - (m + 1))
                  case measure => rw [HN.out]; omega
                  case rel => exact ⟨m + 1, s', d', tk, any, by omega, rfl, by go_num, rfl, rfl, HS5.out, HD5.out, HB5.out, HK5.out, HR5.out, HQ5.out, by omega⟩
                | true =>
                  have HQ5 : Hid (Qt t i s' 0 true) := Lib.hid (by rw [HFr.out] at hq2; simpa using hq2)
                  have hq3 := hq1 rfl HFr.out
                  cases any with
                  | false =>
                    clear hq1 hq2 hq3
                    go_wp2_with ((with_reducible refine (RFree_any t _ HFr.out _).mono ?_); rintro e w' ⟨rfl, rfl⟩)
                    go_roundg (x.times.toNat + 2 - (m + 1))
                    case measure => rw [HN.out]; omega
                    case rel => exact ⟨m + 1, s', d', 0, true, by omega, rfl, by go_num, rfl, rfl, HS5.out, HD5.out, HB5.out, HK5.out, HR5.out, HQ5.out, by omega⟩
                  | true =>
                    have bq : decide (tk < i) = false := decide_eq_false (fun h => hq3 ⟨rfl, h⟩)
                    clear hq1 hq2 hq3
                    go_wp2_with ((with_reducible refine (RFree_any t _ HFr.out _).mono ?_); rintro e w' ⟨rfl, rfl⟩)
                    go_roundg (x.times.toNat + 2 - (m + 1))
                    case measure => rw [HN.out]; omega
                    case rel => exact ⟨m + 1, s', d', 0, true, by omega, rfl, by go_num, rfl, rfl, HS5.out, HD5.out, HB5.out, HK5.out, HR5.out, HQ5.out, by omega⟩
          · go_wp2_with fail
            go_roundg (acts.length - (j + 1))
            case measure => rw [HM.out]; omega
            case rel => exact ⟨j + 1, s, d, tk, any, hlt, rfl, by go_num, rfl, rfl, HS.out, HD.out, HB.out, HK.out, HR.out.more (by omega), HQ.out, by omega⟩
    · have h1 : ¬ (j : Int) < (acts.length : Int) := by omega
      clear hlt
      have hq := HQ.out
      have hr := HR.out
      have etyp : Hid (s.typ = t) := Lib.hid hq.typ
      have eon : Hid (s.on = true) := Lib.hid hq.on
      have HSn : Hid (0 ≤ s.since ∧ s.since ≤ 40000000000000000) := Lib.hid ⟨hr.k0, by have := hr.k1; omega⟩
      have HQn : Hid (0 ≤ s.quiet ∧ s.quiet ≤ i) := Lib.hid ⟨hr.q0, by have := hr.q1; rw [hq.inh] at this; exact this⟩
      have HYn : Hid (0 ≤ s.syncs ∧ s.syncs ≤ 255) := Lib.hid ⟨hr.y0, hr.y1⟩
      have hib : isB t = true := by have := HO.out; unfold okB at this; simp at this; exact this.1
      have HIb := Lib.hid hib
      clear hq hr hib
      cases fr with
      | false =>
        have hb3 : 0 ≤ t ∧ t ≤ 240 := by
          have h1 := HIb.out
          unfold isB at h1
          rw [HFr.out] at h1
          simpa using h1
        obtain ⟨t0, t1⟩ := hb3
        have HE : Hid (s.event = (false, { s with waits := true })) := Lib.hid (by unfold Sd.event; rw [eon.out, etyp.out, HFr.out]; rfl)
        go_wp2_with fail
        refine (Event_any HS.out).mono ?_
        rintro e w5 hp
        unfold BoolPost at hp
        rw [HE.out] at hp
        obtain ⟨rfl, hs, hk⟩ := hp
        have HS5 := Lib.hid hs
        have HB5 := Lib.hid (HB.out.keep hk (fun e => by have := HG.out; have e' : w.heap.size = g := e; omega))
        have HK5 := Lib.hid (HK.out.trans hk (fun i hi => .inr (by have := HG.out; unfold Own.One at hi; omega)))
        have bf0 := HB5.out.cell 0
        clear hs hk
        by_cases hz : 1 ≤ t
        · go_wp2_with ((with_reducible refine (lives_any _).mono ?_); rintro e w' ⟨rfl, hk⟩)
          go_ret
          rename_i hk
          exact ⟨rfl, HK5.out.trans hk.out (fun i hi => hi.elim)⟩
        · have hz2 : t = 0 := by omega
          have HZ := Lib.hid hz2
          rw [hz2] at bf0
          clear hz hz2
          have HE2 : Hid (Sd.sync { s with waits := true } = (true, { s with waits := false })) := Lib.hid (by unfold Sd.sync; simp only; rw [eon.out, etyp.out, HFr.out, HZ.out]; rfl)
          have HE3 : Hid (Sd.sync { s with waits := false } = (false, { s with waits := false })) := Lib.hid (by unfold Sd.sync; simp only; rw [eon.out, etyp.out, HFr.out, HZ.out]; rfl)
          go_wp2_with fail
          refine (Sync_any HS5.out (by simp only [etyp.out]; exact t0) (by simp only [etyp.out]; omega) HYn.out.1 HYn.out.2 0).mono ?_
          rintro e w6 hp
          unfold BoolPost at hp
          rw [HE2.out] at hp
          obtain ⟨rfl, hs, hk⟩ := hp
          have HS6 := Lib.hid hs
          have HK6 := Lib.hid (HK5.out.trans hk (fun i hi => .inr (by have := HG.out; unfold Own.One at hi; omega)))
          clear hs hk
          go_wp2_with fail
          refine (Sync_any HS6.out (by simp only [etyp.out]; exact t0) (by simp only [etyp.out]; omega) HYn.out.1 HYn.out.2 0).mono ?_
          rintro e w7 hp
          unfold BoolPost at hp
          rw [HE3.out] at hp
          obtain ⟨rfl, hs, hk⟩ := hp
          have HK7 := Lib.hid (HK6.out.trans hk (fun i hi => .inr (by have := HG.out; unfold Own.One at hi; omega)))
          clear hs hk
          go_wp2_with ((with_reducible refine (lives_any _).mono ?_); rintro e w' ⟨rfl, hk⟩)
          go_ret
          rename_i hk
          exact ⟨rfl, HK7.out.trans hk.out (fun i hi => hi.elim)⟩
      | true =>
        have ht2 : 240 < t := by
          have h1 := HFr.out
          unfold freeB at h1
          simp at h1
          omega
        have t1 : 1 ≤ t := by omega
        have tb : decide (t ≤ 240) = false := by simp; omega
        have tz : (t == 0) = false := by simp; omega
        obtain ⟨sb, sv, hev⟩ : ∃ sb sv, s.event = (sb, sv) := ⟨_, _, rfl⟩
        have HSv : Hid (sv.typ = t ∧ sv.on = true ∧ (0 ≤ sv.since ∧ sv.since ≤ 40000000000000000) ∧ (sb = false → sv.waits = true ∧ 0 < sv.quiet ∧ sv.quiet ≤ i)) := Lib.hid (by
          have h1 := hev
          unfold Sd.event at h1
          rw [eon.out, etyp.out, HFr.out] at h1
          simp only [Bool.true_and, if_true] at h1
          by_cases hq0 : s.quiet = 0
          · rw [hq0] at h1
            simp only [decide_true, if_true, Prod.mk.injEq] at h1
            obtain ⟨rfl, rfl⟩ := h1
            exact ⟨etyp.out, eon.out, ⟨Int.le_refl _, by simp [Sd.sent]⟩, fun h => by cases h⟩
          · simp only [hq0, decide_false, Bool.false_eq_true, if_false, Prod.mk.injEq] at h1
            obtain ⟨rfl, rfl⟩ := h1
            refine ⟨rfl, rfl, HSn.out, fun _ => ⟨rfl, ?_, HQn.out.2⟩⟩
            have := HQn.out.1
            simp only
            omega)
        have HE := Lib.hid hev
        clear hev
        go_wp2_with fail
        refine (Event_any HS.out).mono ?_
        rintro e w5 hp
        unfold BoolPost at hp
        rw [HE.out] at hp
        obtain ⟨rfl, hs, hk⟩ := hp
        have HS5 : Hid (IsSd w5 g sv) := Lib.hid hs
        have HB5 := Lib.hid (HB.out.keep hk (fun e => by have := HG.out; have e' : w.heap.size = g := e; omega))
        have HK5 := Lib.hid (HK.out.trans hk (fun i hi => .inr (by have := HG.out; unfold Own.One at hi; omega)))
        have bf0 := HB5.out.cell 0
        clear hs hk
        go_wp2_with fail
        clear bf0
        go_loopg [14, 15] 3002 (fun k sv0 nv wr' => ∃ (m : Nat) (sb : Bool) (s : Sd), m ≤ 3000 ∧ k = 3002 - m ∧ sv0 = .bool sb ∧ nv = .int .u64 m ∧ IsSd wr' g s ∧ Blk wr' w.heap.size #[.int .i64 t, .int .u64 i, .int .u64 v] 39 ∧ Keep Zero w wr' ∧ Lst t i sb s m)
        case atStart =>
          obtain ⟨e1, e2, e3, e4⟩ := HSv.out
          exact ⟨0, sb, sv, by omega, rfl, rfl, rfl, HS5.out, HB5.out, HK5.out, ⟨e1, e2, e3.1, by have := e3.2; omega, fun h => ⟨(e4 h).1, (e4 h).2.1, by have := (e4 h).2.2; omega⟩⟩⟩
        case round =>
          clear HS5 HB5 HK5 HSv HE HS HB HK HD HR HQ HSn HQn HYn etyp eon sv s d
          obtain ⟨m, sb, s, hm, hk, rfl, rfl, hs, hb4, hkp, hls⟩ := hrel
          have HN := Lib.hid hk
          have HS := Lib.hid hs
          have HB := Lib.hid hb4
          have HK := Lib.hid hkp
          have HL := Lib.hid hls
          have bf1 := HB.out.cell 1
          clear hk hs hb4 hkp hls
          by_cases hmi : (m : Int) < i
          · by_cases hm3 : (m : Int) < 3000
            · cases sb with
              | true =>
                go_wp2_with ((with_reducible refine (lives_any _).mono ?_); rintro e w' ⟨rfl, hk⟩)
                go_ret
                rename_i hk
                exact ⟨rfl, HK.out.trans hk.out (fun i hi => hi.elim)⟩
              | false =>
                obtain ⟨sb2, sv2, hev⟩ : ∃ sb sv, s.tick = (sb, sv) := ⟨_, _, rfl⟩
                have HL2 : Hid (Lst t i sb2 sv2 (m + 1 : Nat)) := Lib.hid (HL.out.tick HFr.out hev)
                have HE := Lib.hid hev
                have HQn : Hid (0 ≤ s.quiet ∧ s.quiet ≤ 4294967296) := Lib.hid (by have := (HL.out.un rfl).2; omega)
                clear hev
                go_wp2_with fail
                refine (Tick_any HS.out HL.out.k0 (by have := HL.out.k1; omega) HQn.out.1 HQn.out.2).mono ?_
                rintro e w6 hp
                unfold BoolPost at hp
                rw [HE.out] at hp
                obtain ⟨rfl, hs, hk⟩ := hp
                have HS6 : Hid (IsSd w6 g sv2) := Lib.hid hs
                have HB6 := Lib.hid (HB.out.keep hk (fun e => by have := HG.out; have e' : w.heap.size = g := e; omega))
                have HK6 := Lib.hid (HK.out.trans hk (fun i hi => .inr (by have := HG.out; unfold Own.One at hi; omega)))
                clear hs hk
                go_wp2_with fail
                go_roundg (3002 - (m + 1))
                case measure => rw [HN.out]; omega
                case rel => exact ⟨m + 1, sb2, sv2, by omega, rfl, rfl, by go_num, HS6.out, HB6.out, HK6.out, HL2.out⟩
            · have hm4 : decide ((m : Int) < 3000) = false := decide_eq_false hm3
              have hi3 : sb = false → 3000 < i := fun h => by have := (HL.out.un h).2; omega
              cases sb with
              | true =>
                go_wp2_with ((with_reducible refine (lives_any _).mono ?_); rintro e w' ⟨rfl, hk⟩)
                go_ret
                rename_i hk
                exact ⟨rfl, HK.out.trans hk.out (fun i hi => hi.elim)⟩
              | false =>
                have hi4 := hi3 rfl
                go_wp2_with ((with_reducible refine (lives_any _).mono ?_); rintro e w' ⟨rfl, hk⟩)
                go_ret
                rename_i hk
                exact ⟨rfl, HK.out.trans hk.out (fun i hi => hi.elim)⟩
          · cases sb with
            | true =>
              go_wp2_with ((with_reducible refine (lives_any _).mono ?_); rintro e w' ⟨rfl, hk⟩)
              go_ret
              rename_i hk
              exact ⟨rfl, HK.out.trans hk.out (fun i hi => hi.elim)⟩
            | false =>
              exfalso
              have := (HL.out.un rfl).2
              omega
end Go.Proofs.Ytcgnkabblmoboaa.Pdo
