/- SyncTells's walk. -/
import Derived.Test.YtmaajpkkdpaeeaaSyncG
import Derived.Deep.RegionHeld3
import Derived.Deep.RegionHeld
namespace Go.Proofs.Ytmaajpkkdpaeeaa.Sync
open Go.RowKit Go.Proofs.Ytmaajpkkdpaeeaa.Own
structure TAct where
  kind : Int
  n : Int
  on : Bool
def TActsAt (w : World) (A : Option Addr) (xs : List TAct) : Prop := ∀ i x, xs[i]? = some x → ∃ b o, A = some ⟨b, o, none⟩ ∧ b < w.heap.size ∧
  w.cell? ⟨b, o + i * 3, none⟩ = some (.int .i64 x.kind) ∧ w.cell? ⟨b, o + i * 3 + 1, none⟩ = some (.int .u64 x.n) ∧ w.cell? ⟨b, o + i * 3 + 2, none⟩ = some (.bool x.on) ∧ 0 ≤ x.n ∧ x.n ≤ 18446744073709551615
theorem Tick_h {T period ov : Int} {w : World} {g : Nat} {p : Pr} {r : Rp} (h : IsPr w g p) (hr : TRel T period ov p r) (n : Int) (n0 : 0 ≤ n) (m : Int) (hm : m = min n 65536) : Calls Try.prog 10 #[.pointer (some ⟨g, 0, none⟩), .int .u64 n] w fun e w' => ∃ A c, e = .returned (.slice A (p.tk m.toNat).1.length c) ∧ Hid (Row w' A (ints .i64 (p.tk m.toNat).1) ∧ ∀ a, A = some a → w.heap.size ≤ a.block) ∧ Hid (IsPr w' g (p.tk m.toNat).2) ∧ Hid (Keep (Own.One g) w w') := by
  refine (Tick_u h hr n n0 m hm).mono ?_
  rintro e w' ⟨A, c, he, h1, h2, h3, h4⟩
  exact ⟨A, c, he, ⟨h1, h4⟩, h2, h3⟩
theorem RTick_h {T period ov : Int} {w : World} {f : Nat} {p : Pr} {r : Rp} (h : IsRp w f r) (hr : TRel T period ov p r) (hT : T ≤ 4611686018427387904) (n : Int) (n0 : 0 ≤ n) (m : Int) (hm : m = min n 65536) : Calls Try.prog 17 #[.pointer (some ⟨f, 0, none⟩), .int .u64 n] w fun e w' => ∃ A c r, e = .returned (.slice A (p.tk m.toNat).1.length c) ∧ Hid (Row w' A (ints .i64 (p.tk m.toNat).1)) ∧ Hid (IsRp w' f r) ∧ Hid (TRel (T + 65536) period ov (p.tk m.toNat).2 r) ∧ Hid (Keep (Own.One f) w w') := by
  refine (RTick_u h hr hT n n0 m hm).mono ?_
  rintro e w' ⟨A, c, r', he, h1, h2, h3, h4⟩
  exact ⟨A, c, r', he, h1, h2, h3, h4⟩
theorem same_h {w : World} (A B : Option Addr) (ca cb : Nat) (xs : List Int) (hx : Row w A (ints .i64 xs)) (hy : Row w B (ints .i64 xs)) (lx : xs.length ≤ 1000000000000000) :
    Calls Try.prog 16 #[.slice A xs.length ca, .slice B xs.length cb] w fun e w' => e = .returned (.bool true) ∧ Hid (Keep Zero w w') :=
  same_any A B ca cb xs xs hx hy lx true (by simp)
set_option maxRecDepth 100000 in
set_option maxHeartbeats 8000000 in
theorem tells_walk (period ov : Int) (p1 : 1 ≤ period) (p2 : period ≤ 4294967296) (hov : Cnt ov) (A : Option Addr) (c : Nat) (acts : List TAct) (w : World) (ha : TActsAt w A acts) (hl : acts.length ≤ 70000000000000) :
    Calls Try.prog 5 #[.int .u64 period, .int .i64 ov, .slice A acts.length c] w fun e w' => e = .returned (.bool true) ∧ Keep Zero w w' := by
  have HA := Lib.hid ha
  have HV := Lib.hid hov
  have hb : true = decide (Cnt ov) := by simp [hov]
  have HBo := Lib.hid hb
  have b1 : decide (period < 1) = false := by simp; omega
  have b2 : decide (4294967296 < period) = false := by simp; omega
  clear ha hov hb
  go_enter Try.func5, Try.ntmps5
  go_wp2_with fail
  refine (NewP_ok period ov p1 p2 HV.out _).mono ?_
  rintro e w1 ⟨g, rfl, hd, hg, hk⟩
  have HD1 := Lib.hid (hd.alloc (.cells #[.int .u64 period, .int .i64 ov, .bool false, .int .u64 0, .int .i64 0] 47))
  have HR1 : Hid (IsRp (w1.alloc (.cells #[.int .u64 period, .int .i64 ov, .bool false, .int .u64 0, .int .i64 0] 47)) w1.heap.size ⟨period, ov, false, 0, 0⟩) := Blk.new _ _ _
  have HK1 := Lib.hid (hk.alloc (.cells #[.int .u64 period, .int .i64 ov, .bool false, .int .u64 0, .int .i64 0] 47))
  have g1 : g < w1.heap.size := hd.lt
  have ww : w.heap.size ≤ w1.heap.size := hk.size
  have gw : w.heap.size ≤ g := hg
  clear hd hk hg
  go_wp2_with ((with_reducible refine (RCounts_any ov true HBo.out _).mono ?_); rintro e w' ⟨rfl, rfl⟩)
  go_loopg [10, 11] acts.length (fun k gr i wr => ∃ (j : Nat) (q : Int) (p : Pr) (r : Rp), j ≤ acts.length ∧ k = acts.length - j ∧ i = .int .i64 j ∧ 0 ≤ q ∧ q ≤ j ∧ gr = .int .i64 q ∧ IsPr wr g p ∧ IsRp wr w1.heap.size r ∧ Keep Zero w wr ∧ TRel ((j : Int) * 65536) period ov p r)
  case atStart => exact ⟨0, 0, _, _, Nat.zero_le _, rfl, rfl, Int.le_refl _, Int.le_refl _, rfl, HD1.out, HR1.out, HK1.out, by simpa using TRel.new p1 p2 HV.out⟩
  case round =>
    obtain ⟨j, q, p, r, hj, hk, rfl, q0, q1, rfl, hp, hr, hkp, hrl⟩ := hrel
    clear HD1 HR1 HK1
    have HD0 := Lib.hid hp
    have HR0 := Lib.hid hr
    have HK0 := Lib.hid hkp
    have HM := Lib.hid hk
    have HT0 := Lib.hid hrl
    clear hp hr hkp hk hrl
    by_cases hlt : j < acts.length
    · obtain ⟨x, hx⟩ : ∃ x, acts[j]? = some x := ⟨acts[j], List.getElem?_eq_getElem hlt⟩
      obtain ⟨b, o, rfl, hb, hc0, hc1, hc2, n0, n1⟩ := HA.out j x hx
      clear hx
      have z0 := ((HK0.out.cell (p := ⟨b, o + j * 3, none⟩) hb id).trans hc0)
      have z1 := ((HK0.out.cell (p := ⟨b, o + j * 3 + 1, none⟩) hb id).trans hc1)
      have z2 := ((HK0.out.cell (p := ⟨b, o + j * 3 + 2, none⟩) hb id).trans hc2)
      have hl1 : (j : Int) < (acts.length : Int) := by omega
      clear hc0 hc1 hc2
      by_cases hn : 300 < x.n
      · by_cases hq : 4 < q + 1
        · have hmod : 0 ≤ x.n % 300 := Int.emod_nonneg _ (by decide)
          have hmod2 : x.n % 300 < 300 := Int.emod_lt_of_pos _ (by decide)
          have HB : Hid (Blk (wr.alloc (.cells #[.int .i64 x.kind, .int .u64 (x.n % 300), .bool x.on] 49)) wr.heap.size #[.int .i64 x.kind, .int .u64 (x.n % 300), .bool x.on] 49) := Lib.hid (Blk.new _ _ _)
          have HD1 := Lib.hid (HD0.out.alloc (.cells #[.int .i64 x.kind, .int .u64 (x.n % 300), .bool x.on] 49))
          have HR1 := Lib.hid (HR0.out.alloc (.cells #[.int .i64 x.kind, .int .u64 (x.n % 300), .bool x.on] 49))
          have HK1 := Lib.hid (HK0.out.alloc (.cells #[.int .i64 x.kind, .int .u64 (x.n % 300), .bool x.on] 49))
          by_cases k0 : x.kind = 0
          · have kb : (x.kind == 0) = true := by simp [k0]
            have kb1 : (x.kind == 1) = false := by simp [k0]
            clear k0
            obtain ⟨m, hm⟩ : ∃ m, m = min (x.n % 300) 65536 := ⟨_, rfl⟩
            have HMn := Lib.hid hm
            have hm1 : m.toNat ≤ 65536 := by omega
            have HLn := Lib.hid (tk_length HT0.out m.toNat hm1)
            have HC1 := Lib.hid (Blk.cell HB.out.drew 1)
            clear hm
            go_wp2_with fail
            go_region_held3 (fun w' => w'.cell? ⟨wr.heap.size, 1, none⟩ = some (.int .u64 (x.n % 300))) (first | (go_keep; done) | exact HC1.out | exact (hk4.out.cell (p := ⟨wr.heap.size, 1, none⟩) HB.out.lt (fun e => by have := HD0.out.lt; have e' : wr.heap.size = g := e; omega)).trans HC1.out | exact (hk5.out.cell (p := ⟨wr.heap.size, 1, none⟩) (Nat.lt_of_lt_of_le HB.out.lt hk4.out.size) (fun e => by have := HR0.out.lt; have e' : wr.heap.size = w1.heap.size := e; omega)).trans ((hk4.out.cell (p := ⟨wr.heap.size, 1, none⟩) HB.out.lt (fun e => by have := HD0.out.lt; have e' : wr.heap.size = g := e; omega)).trans HC1.out) | exact (hk6.out.cell (p := ⟨wr.heap.size, 1, none⟩) (Nat.lt_of_lt_of_le (Nat.lt_of_lt_of_le HB.out.lt hk4.out.size) hk5.out.size) id).trans ((hk5.out.cell (p := ⟨wr.heap.size, 1, none⟩) (Nat.lt_of_lt_of_le HB.out.lt hk4.out.size) (fun e => by have := HR0.out.lt; have e' : wr.heap.size = w1.heap.size := e; omega)).trans ((hk4.out.cell (p := ⟨wr.heap.size, 1, none⟩) HB.out.lt (fun e => by have := HD0.out.lt; have e' : wr.heap.size = g := e; omega)).trans HC1.out))) (first | (go_at_call 10; refine (Tick_h (w := (wr.alloc (.cells #[.int .i64 x.kind, .int .u64 (x.n % 300), .bool x.on] 49)).drew) HD1.out.drew HT0.out (x.n % 300) (by omega) m HMn.out).mono ?_; rintro e w4 ⟨A4, c4, rfl, hr4, hd4, hk4⟩) | (go_at_call 17; refine (RTick_h (w := w4) (HR1.out.drew.keep hk4.out (fun e => by have e' : w1.heap.size = g := e; omega)) HT0.out (by omega) (x.n % 300) (by omega) m HMn.out).mono ?_; rintro e w5 ⟨A5, c5, r5, rfl, hr5, hd5, ht5, hk5⟩) | (go_at_call 16; refine (same_h (w := w5) A4 A5 c4 c5 _ (hr4.out.1.keep hk5.out (fun a ha _ e => by have h1 := hr4.out.2 a ha; have h2 := HR1.out.drew.lt; have e' : a.block = w1.heap.size := e; omega)) hr5.out (by have := HLn.out; omega)).mono ?_; rintro e w6 ⟨rfl, hk6⟩))
            have HD5 := Lib.hid (IsPr.keep (S := Own.One w1.heap.size) (hd4.out) hk5.out (fun e => by have e' : g = w1.heap.size := e; omega))
            have HD := Lib.hid (HD5.out.keep hk6.out id)
            have HR := Lib.hid (IsRp.keep (p := r5) hd5.out hk6.out id)
            have HT := Lib.hid (ht5.out.more (T' := ((j : Int) + 1) * 65536) (by omega))
            have HK := Lib.hid (((HK1.out.drew.trans hk4.out (fun i hi => .inr (by unfold Own.One at hi; omega))).trans hk5.out (fun i hi => .inr (by unfold Own.One at hi; omega))).trans hk6.out (fun i hi => hi.elim))
            clear hr4 hd4 hk4 hr5 hd5 ht5 hk5 hk6 HD1 HR1 HK1 HD0 HR0 HK0 HT0 HB HD5 HC1
            obtain ⟨ps, hps⟩ : ∃ ps, (p.tk m.toNat).2 = ps := ⟨_, rfl⟩
            rw [hps] at HD HT
            clear hps
            go_wp2_with fail
            obtain ⟨pp, po, rp, ro, ron, _, _, cc, l0, l1, x0, x1, v0, v1, t0, t1, eq⟩ := HT.out
            obtain ⟨pper, pov, pon, plf, pnx⟩ := ps
            obtain ⟨rper, rov, ron', rwe, rto⟩ := r5
            obtain rfl : pper = period := pp
            obtain rfl : pov = ov := po
            obtain rfl : rper = pper := rp
            obtain rfl : rov = pov := ro
            obtain rfl : ron' = pon := ron
            obtain ⟨d0, d1, d2, d3, d4, _, _, _, _, _⟩ := IsRp.facts HR.out
            have HE := Lib.hid eq
            have HC := Lib.hid cc
            clear eq cc d0 d1 d4
            cases ron' with
            | true =>
              have bw : (plf != rper - rwe) = false := by have := (HE.out rfl).2.1; simp only at this; simp [this]
              go_wp2_with ((with_reducible refine (Next_on (HD.out) rfl).mono ?_); rintro e w' ⟨rfl, rfl⟩)
              go_roundg (acts.length - (j + 1))
              case measure => rw [HM.out]; omega
              case rel => exact ⟨j + 1, (q + 1), _, _, hlt, rfl, by go_num, by omega, by omega, by go_num, HD.out, HR.out, HK.out, HT.out.more (by omega)⟩
            | false =>
              go_wp2_with ((with_reducible refine (Next_off (HD.out) rfl).mono ?_); rintro e w' ⟨rfl, rfl⟩)
              go_roundg (acts.length - (j + 1))
              case measure => rw [HM.out]; omega
              case rel => exact ⟨j + 1, (q + 1), _, _, hlt, rfl, by go_num, by omega, by omega, by go_num, HD.out, HR.out, HK.out, HT.out.more (by omega)⟩
          · have kb : (x.kind == 0) = false := by simp [k0]
            by_cases k1 : x.kind = 1
            · have kb1 : (x.kind == 1) = true := by simp [k1]
              clear k0 k1
              have hb2 := HB.out.cell 2
              go_wp2_with fail
              refine (Start_any HD1.out (by rw [HT0.out.po]; exact HV.out) x.on).mono ?_
              rintro e w3 ⟨rfl, hd, hk⟩
              have HD := Lib.hid hd
              have HR3 := Lib.hid (HR1.out.keep hk (fun e => by have e' : w1.heap.size = g := e; omega))
              have HK3 := Lib.hid (HK1.out.trans hk (fun i hi => .inr (by unfold Own.One at hi; omega)))
              have hb3 := (HB.out.keep hk (fun e => by have := HD0.out.lt; have e' : wr.heap.size = g := e; omega)).cell 2
              clear hd hk hb2
              go_wp2_with fail
              refine (RStart_any HR3.out x.on).mono ?_
              rintro e w4 ⟨rfl, hr, hk⟩
              have HR := Lib.hid hr
              have HD4 := Lib.hid (HD.out.keep hk (fun e => by have e' : g = w1.heap.size := e; omega))
              have HK := Lib.hid (HK3.out.trans hk (fun i hi => .inr (by unfold Own.One at hi; omega)))
              have HT := Lib.hid ((HT0.out.start (by omega) x.on).more (T' := ((j : Int) + 1) * 65536) (by omega))
              clear hr hk hb3 HD1 HR1 HK1 HD0 HR0 HK0 HT0 HB HD HR3 HK3
              have HD := HD4
              clear HD4
              obtain ⟨ps, hps⟩ : ∃ ps, p.start x.on = ps := ⟨_, rfl⟩
              obtain ⟨rs, hrs⟩ : ∃ rs, (if x.on && !r.on then { r with on := x.on, went := 0, told := 0 } else { r with on := x.on } : Rp) = rs := ⟨_, rfl⟩
              rw [hps] at HD HT
              rw [hrs] at HR HT
              clear hps hrs
              go_wp2_with fail
              obtain ⟨pp, po, rp, ro, ron, _, _, cc, l0, l1, x0, x1, v0, v1, t0, t1, eq⟩ := HT.out
              obtain ⟨pper, pov, pon, plf, pnx⟩ := ps
              obtain ⟨rper, rov, ron', rwe, rto⟩ := rs
              obtain rfl : pper = period := pp
              obtain rfl : pov = ov := po
              obtain rfl : rper = pper := rp
              obtain rfl : rov = pov := ro
              obtain rfl : ron' = pon := ron
              obtain ⟨d0, d1, d2, d3, d4, _, _, _, _, _⟩ := IsRp.facts HR.out
              have HE := Lib.hid eq
              have HC := Lib.hid cc
              clear eq cc d0 d1 d4
              cases ron' with
              | true =>
                have bw : (plf != rper - rwe) = false := by have := (HE.out rfl).2.1; simp only at this; simp [this]
                go_wp2_with ((with_reducible refine (Next_on (HD.out) rfl).mono ?_); rintro e w' ⟨rfl, rfl⟩)
                go_roundg (acts.length - (j + 1))
                case measure => rw [HM.out]; omega
                case rel => exact ⟨j + 1, (q + 1), _, _, hlt, rfl, by go_num, by omega, by omega, by go_num, HD.out, HR.out, HK.out, HT.out.more (by omega)⟩
              | false =>
                go_wp2_with ((with_reducible refine (Next_off (HD.out) rfl).mono ?_); rintro e w' ⟨rfl, rfl⟩)
                go_roundg (acts.length - (j + 1))
                case measure => rw [HM.out]; omega
                case rel => exact ⟨j + 1, (q + 1), _, _, hlt, rfl, by go_num, by omega, by omega, by go_num, HD.out, HR.out, HK.out, HT.out.more (by omega)⟩
            · have kb1 : (x.kind == 1) = false := by simp [k1]
              clear k0 k1
              go_wp2_with fail
              have HD : Hid (IsPr _ g p) := HD1
              have HR : Hid (IsRp _ w1.heap.size r) := HR1
              have HK := HK1
              have HT := Lib.hid (HT0.out.more (T' := ((j : Int) + 1) * 65536) (by omega))
              clear HD1 HR1 HK1 HD0 HR0 HK0 HT0 HB
              obtain ⟨pp, po, rp, ro, ron, _, _, cc, l0, l1, x0, x1, v0, v1, t0, t1, eq⟩ := HT.out
              obtain ⟨pper, pov, pon, plf, pnx⟩ := p
              obtain ⟨rper, rov, ron', rwe, rto⟩ := r
              obtain rfl : pper = period := pp
              obtain rfl : pov = ov := po
              obtain rfl : rper = pper := rp
              obtain rfl : rov = pov := ro
              obtain rfl : ron' = pon := ron
              obtain ⟨d0, d1, d2, d3, d4, _, _, _, _, _⟩ := IsRp.facts HR.out
              have HE := Lib.hid eq
              have HC := Lib.hid cc
              clear eq cc d0 d1 d4
              cases ron' with
              | true =>
                have bw : (plf != rper - rwe) = false := by have := (HE.out rfl).2.1; simp only at this; simp [this]
                go_wp2_with ((with_reducible refine (Next_on (HD.out) rfl).mono ?_); rintro e w' ⟨rfl, rfl⟩)
                go_roundg (acts.length - (j + 1))
                case measure => rw [HM.out]; omega
                case rel => exact ⟨j + 1, (q + 1), _, _, hlt, rfl, by go_num, by omega, by omega, by go_num, HD.out, HR.out, HK.out, HT.out.more (by omega)⟩
              | false =>
                go_wp2_with ((with_reducible refine (Next_off (HD.out) rfl).mono ?_); rintro e w' ⟨rfl, rfl⟩)
                go_roundg (acts.length - (j + 1))
                case measure => rw [HM.out]; omega
                case rel => exact ⟨j + 1, (q + 1), _, _, hlt, rfl, by go_num, by omega, by omega, by go_num, HD.out, HR.out, HK.out, HT.out.more (by omega)⟩
        · have hq2 : q + 1 ≤ 4 := by omega
          have HB : Hid (Blk (wr.alloc (.cells #[.int .i64 x.kind, .int .u64 x.n, .bool x.on] 49)) wr.heap.size #[.int .i64 x.kind, .int .u64 x.n, .bool x.on] 49) := Lib.hid (Blk.new _ _ _)
          have HD1 := Lib.hid (HD0.out.alloc (.cells #[.int .i64 x.kind, .int .u64 x.n, .bool x.on] 49))
          have HR1 := Lib.hid (HR0.out.alloc (.cells #[.int .i64 x.kind, .int .u64 x.n, .bool x.on] 49))
          have HK1 := Lib.hid (HK0.out.alloc (.cells #[.int .i64 x.kind, .int .u64 x.n, .bool x.on] 49))
          by_cases k0 : x.kind = 0
          · have kb : (x.kind == 0) = true := by simp [k0]
            have kb1 : (x.kind == 1) = false := by simp [k0]
            clear k0
            obtain ⟨m, hm⟩ : ∃ m, m = min x.n 65536 := ⟨_, rfl⟩
            have HMn := Lib.hid hm
            have hm1 : m.toNat ≤ 65536 := by omega
            have HLn := Lib.hid (tk_length HT0.out m.toNat hm1)
            have HC1 := Lib.hid (Blk.cell HB.out.drew 1)
            clear hm
            go_wp2_with fail
            go_region_held3 (fun w' => w'.cell? ⟨wr.heap.size, 1, none⟩ = some (.int .u64 x.n)) (first | (go_keep; done) | exact HC1.out | exact (hk4.out.cell (p := ⟨wr.heap.size, 1, none⟩) HB.out.lt (fun e => by have := HD0.out.lt; have e' : wr.heap.size = g := e; omega)).trans HC1.out | exact (hk5.out.cell (p := ⟨wr.heap.size, 1, none⟩) (Nat.lt_of_lt_of_le HB.out.lt hk4.out.size) (fun e => by have := HR0.out.lt; have e' : wr.heap.size = w1.heap.size := e; omega)).trans ((hk4.out.cell (p := ⟨wr.heap.size, 1, none⟩) HB.out.lt (fun e => by have := HD0.out.lt; have e' : wr.heap.size = g := e; omega)).trans HC1.out) | exact (hk6.out.cell (p := ⟨wr.heap.size, 1, none⟩) (Nat.lt_of_lt_of_le (Nat.lt_of_lt_of_le HB.out.lt hk4.out.size) hk5.out.size) id).trans ((hk5.out.cell (p := ⟨wr.heap.size, 1, none⟩) (Nat.lt_of_lt_of_le HB.out.lt hk4.out.size) (fun e => by have := HR0.out.lt; have e' : wr.heap.size = w1.heap.size := e; omega)).trans ((hk4.out.cell (p := ⟨wr.heap.size, 1, none⟩) HB.out.lt (fun e => by have := HD0.out.lt; have e' : wr.heap.size = g := e; omega)).trans HC1.out))) (first | (go_at_call 10; refine (Tick_h (w := (wr.alloc (.cells #[.int .i64 x.kind, .int .u64 x.n, .bool x.on] 49)).drew) HD1.out.drew HT0.out x.n (by omega) m HMn.out).mono ?_; rintro e w4 ⟨A4, c4, rfl, hr4, hd4, hk4⟩) | (go_at_call 17; refine (RTick_h (w := w4) (HR1.out.drew.keep hk4.out (fun e => by have e' : w1.heap.size = g := e; omega)) HT0.out (by omega) x.n (by omega) m HMn.out).mono ?_; rintro e w5 ⟨A5, c5, r5, rfl, hr5, hd5, ht5, hk5⟩) | (go_at_call 16; refine (same_h (w := w5) A4 A5 c4 c5 _ (hr4.out.1.keep hk5.out (fun a ha _ e => by have h1 := hr4.out.2 a ha; have h2 := HR1.out.drew.lt; have e' : a.block = w1.heap.size := e; omega)) hr5.out (by have := HLn.out; omega)).mono ?_; rintro e w6 ⟨rfl, hk6⟩))
            have HD5 := Lib.hid (IsPr.keep (S := Own.One w1.heap.size) (hd4.out) hk5.out (fun e => by have e' : g = w1.heap.size := e; omega))
            have HD := Lib.hid (HD5.out.keep hk6.out id)
            have HR := Lib.hid (IsRp.keep (p := r5) hd5.out hk6.out id)
            have HT := Lib.hid (ht5.out.more (T' := ((j : Int) + 1) * 65536) (by omega))
            have HK := Lib.hid (((HK1.out.drew.trans hk4.out (fun i hi => .inr (by unfold Own.One at hi; omega))).trans hk5.out (fun i hi => .inr (by unfold Own.One at hi; omega))).trans hk6.out (fun i hi => hi.elim))
            clear hr4 hd4 hk4 hr5 hd5 ht5 hk5 hk6 HD1 HR1 HK1 HD0 HR0 HK0 HT0 HB HD5 HC1
            obtain ⟨ps, hps⟩ : ∃ ps, (p.tk m.toNat).2 = ps := ⟨_, rfl⟩
            rw [hps] at HD HT
            clear hps
            go_wp2_with fail
            obtain ⟨pp, po, rp, ro, ron, _, _, cc, l0, l1, x0, x1, v0, v1, t0, t1, eq⟩ := HT.out
            obtain ⟨pper, pov, pon, plf, pnx⟩ := ps
            obtain ⟨rper, rov, ron', rwe, rto⟩ := r5
            obtain rfl : pper = period := pp
            obtain rfl : pov = ov := po
            obtain rfl : rper = pper := rp
            obtain rfl : rov = pov := ro
            obtain rfl : ron' = pon := ron
            obtain ⟨d0, d1, d2, d3, d4, _, _, _, _, _⟩ := IsRp.facts HR.out
            have HE := Lib.hid eq
            have HC := Lib.hid cc
            clear eq cc d0 d1 d4
            cases ron' with
            | true =>
              have bw : (plf != rper - rwe) = false := by have := (HE.out rfl).2.1; simp only at this; simp [this]
              go_wp2_with ((with_reducible refine (Next_on (HD.out) rfl).mono ?_); rintro e w' ⟨rfl, rfl⟩)
              go_roundg (acts.length - (j + 1))
              case measure => rw [HM.out]; omega
              case rel => exact ⟨j + 1, (q + 1), _, _, hlt, rfl, by go_num, by omega, by omega, by go_num, HD.out, HR.out, HK.out, HT.out.more (by omega)⟩
            | false =>
              go_wp2_with ((with_reducible refine (Next_off (HD.out) rfl).mono ?_); rintro e w' ⟨rfl, rfl⟩)
              go_roundg (acts.length - (j + 1))
              case measure => rw [HM.out]; omega
              case rel => exact ⟨j + 1, (q + 1), _, _, hlt, rfl, by go_num, by omega, by omega, by go_num, HD.out, HR.out, HK.out, HT.out.more (by omega)⟩
          · have kb : (x.kind == 0) = false := by simp [k0]
            by_cases k1 : x.kind = 1
            · have kb1 : (x.kind == 1) = true := by simp [k1]
              clear k0 k1
              have hb2 := HB.out.cell 2
              go_wp2_with fail
              refine (Start_any HD1.out (by rw [HT0.out.po]; exact HV.out) x.on).mono ?_
              rintro e w3 ⟨rfl, hd, hk⟩
              have HD := Lib.hid hd
              have HR3 := Lib.hid (HR1.out.keep hk (fun e => by have e' : w1.heap.size = g := e; omega))
              have HK3 := Lib.hid (HK1.out.trans hk (fun i hi => .inr (by unfold Own.One at hi; omega)))
              have hb3 := (HB.out.keep hk (fun e => by have := HD0.out.lt; have e' : wr.heap.size = g := e; omega)).cell 2
              clear hd hk hb2
              go_wp2_with fail
              refine (RStart_any HR3.out x.on).mono ?_
              rintro e w4 ⟨rfl, hr, hk⟩
              have HR := Lib.hid hr
              have HD4 := Lib.hid (HD.out.keep hk (fun e => by have e' : g = w1.heap.size := e; omega))
              have HK := Lib.hid (HK3.out.trans hk (fun i hi => .inr (by unfold Own.One at hi; omega)))
              have HT := Lib.hid ((HT0.out.start (by omega) x.on).more (T' := ((j : Int) + 1) * 65536) (by omega))
              clear hr hk hb3 HD1 HR1 HK1 HD0 HR0 HK0 HT0 HB HD HR3 HK3
              have HD := HD4
              clear HD4
              obtain ⟨ps, hps⟩ : ∃ ps, p.start x.on = ps := ⟨_, rfl⟩
              obtain ⟨rs, hrs⟩ : ∃ rs, (if x.on && !r.on then { r with on := x.on, went := 0, told := 0 } else { r with on := x.on } : Rp) = rs := ⟨_, rfl⟩
              rw [hps] at HD HT
              rw [hrs] at HR HT
              clear hps hrs
              go_wp2_with fail
              obtain ⟨pp, po, rp, ro, ron, _, _, cc, l0, l1, x0, x1, v0, v1, t0, t1, eq⟩ := HT.out
              obtain ⟨pper, pov, pon, plf, pnx⟩ := ps
              obtain ⟨rper, rov, ron', rwe, rto⟩ := rs
              obtain rfl : pper = period := pp
              obtain rfl : pov = ov := po
              obtain rfl : rper = pper := rp
              obtain rfl : rov = pov := ro
              obtain rfl : ron' = pon := ron
              obtain ⟨d0, d1, d2, d3, d4, _, _, _, _, _⟩ := IsRp.facts HR.out
              have HE := Lib.hid eq
              have HC := Lib.hid cc
              clear eq cc d0 d1 d4
              cases ron' with
              | true =>
                have bw : (plf != rper - rwe) = false := by have := (HE.out rfl).2.1; simp only at this; simp [this]
                go_wp2_with ((with_reducible refine (Next_on (HD.out) rfl).mono ?_); rintro e w' ⟨rfl, rfl⟩)
                go_roundg (acts.length - (j + 1))
                case measure => rw [HM.out]; omega
                case rel => exact ⟨j + 1, (q + 1), _, _, hlt, rfl, by go_num, by omega, by omega, by go_num, HD.out, HR.out, HK.out, HT.out.more (by omega)⟩
              | false =>
                go_wp2_with ((with_reducible refine (Next_off (HD.out) rfl).mono ?_); rintro e w' ⟨rfl, rfl⟩)
                go_roundg (acts.length - (j + 1))
                case measure => rw [HM.out]; omega
                case rel => exact ⟨j + 1, (q + 1), _, _, hlt, rfl, by go_num, by omega, by omega, by go_num, HD.out, HR.out, HK.out, HT.out.more (by omega)⟩
            · have kb1 : (x.kind == 1) = false := by simp [k1]
              clear k0 k1
              go_wp2_with fail
              have HD : Hid (IsPr _ g p) := HD1
              have HR : Hid (IsRp _ w1.heap.size r) := HR1
              have HK := HK1
              have HT := Lib.hid (HT0.out.more (T' := ((j : Int) + 1) * 65536) (by omega))
              clear HD1 HR1 HK1 HD0 HR0 HK0 HT0 HB
              obtain ⟨pp, po, rp, ro, ron, _, _, cc, l0, l1, x0, x1, v0, v1, t0, t1, eq⟩ := HT.out
              obtain ⟨pper, pov, pon, plf, pnx⟩ := p
              obtain ⟨rper, rov, ron', rwe, rto⟩ := r
              obtain rfl : pper = period := pp
              obtain rfl : pov = ov := po
              obtain rfl : rper = pper := rp
              obtain rfl : rov = pov := ro
              obtain rfl : ron' = pon := ron
              obtain ⟨d0, d1, d2, d3, d4, _, _, _, _, _⟩ := IsRp.facts HR.out
              have HE := Lib.hid eq
              have HC := Lib.hid cc
              clear eq cc d0 d1 d4
              cases ron' with
              | true =>
                have bw : (plf != rper - rwe) = false := by have := (HE.out rfl).2.1; simp only at this; simp [this]
                go_wp2_with ((with_reducible refine (Next_on (HD.out) rfl).mono ?_); rintro e w' ⟨rfl, rfl⟩)
                go_roundg (acts.length - (j + 1))
                case measure => rw [HM.out]; omega
                case rel => exact ⟨j + 1, (q + 1), _, _, hlt, rfl, by go_num, by omega, by omega, by go_num, HD.out, HR.out, HK.out, HT.out.more (by omega)⟩
              | false =>
                go_wp2_with ((with_reducible refine (Next_off (HD.out) rfl).mono ?_); rintro e w' ⟨rfl, rfl⟩)
                go_roundg (acts.length - (j + 1))
                case measure => rw [HM.out]; omega
                case rel => exact ⟨j + 1, (q + 1), _, _, hlt, rfl, by go_num, by omega, by omega, by go_num, HD.out, HR.out, HK.out, HT.out.more (by omega)⟩
      · have hn2 : x.n ≤ 300 := by omega
        have HB : Hid (Blk (wr.alloc (.cells #[.int .i64 x.kind, .int .u64 x.n, .bool x.on] 49)) wr.heap.size #[.int .i64 x.kind, .int .u64 x.n, .bool x.on] 49) := Lib.hid (Blk.new _ _ _)
        have HD1 := Lib.hid (HD0.out.alloc (.cells #[.int .i64 x.kind, .int .u64 x.n, .bool x.on] 49))
        have HR1 := Lib.hid (HR0.out.alloc (.cells #[.int .i64 x.kind, .int .u64 x.n, .bool x.on] 49))
        have HK1 := Lib.hid (HK0.out.alloc (.cells #[.int .i64 x.kind, .int .u64 x.n, .bool x.on] 49))
        by_cases k0 : x.kind = 0
        · have kb : (x.kind == 0) = true := by simp [k0]
          have kb1 : (x.kind == 1) = false := by simp [k0]
          clear k0
          obtain ⟨m, hm⟩ : ∃ m, m = min x.n 65536 := ⟨_, rfl⟩
          have HMn := Lib.hid hm
          have hm1 : m.toNat ≤ 65536 := by omega
          have HLn := Lib.hid (tk_length HT0.out m.toNat hm1)
          have HC1 := Lib.hid (Blk.cell HB.out.drew 1)
          clear hm
          go_wp2_with fail
          go_region_held3 (fun w' => w'.cell? ⟨wr.heap.size, 1, none⟩ = some (.int .u64 x.n)) (first | (go_keep; done) | exact HC1.out | exact (hk4.out.cell (p := ⟨wr.heap.size, 1, none⟩) HB.out.lt (fun e => by have := HD0.out.lt; have e' : wr.heap.size = g := e; omega)).trans HC1.out | exact (hk5.out.cell (p := ⟨wr.heap.size, 1, none⟩) (Nat.lt_of_lt_of_le HB.out.lt hk4.out.size) (fun e => by have := HR0.out.lt; have e' : wr.heap.size = w1.heap.size := e; omega)).trans ((hk4.out.cell (p := ⟨wr.heap.size, 1, none⟩) HB.out.lt (fun e => by have := HD0.out.lt; have e' : wr.heap.size = g := e; omega)).trans HC1.out) | exact (hk6.out.cell (p := ⟨wr.heap.size, 1, none⟩) (Nat.lt_of_lt_of_le (Nat.lt_of_lt_of_le HB.out.lt hk4.out.size) hk5.out.size) id).trans ((hk5.out.cell (p := ⟨wr.heap.size, 1, none⟩) (Nat.lt_of_lt_of_le HB.out.lt hk4.out.size) (fun e => by have := HR0.out.lt; have e' : wr.heap.size = w1.heap.size := e; omega)).trans ((hk4.out.cell (p := ⟨wr.heap.size, 1, none⟩) HB.out.lt (fun e => by have := HD0.out.lt; have e' : wr.heap.size = g := e; omega)).trans HC1.out))) (first | (go_at_call 10; refine (Tick_h (w := (wr.alloc (.cells #[.int .i64 x.kind, .int .u64 x.n, .bool x.on] 49)).drew) HD1.out.drew HT0.out x.n (by omega) m HMn.out).mono ?_; rintro e w4 ⟨A4, c4, rfl, hr4, hd4, hk4⟩) | (go_at_call 17; refine (RTick_h (w := w4) (HR1.out.drew.keep hk4.out (fun e => by have e' : w1.heap.size = g := e; omega)) HT0.out (by omega) x.n (by omega) m HMn.out).mono ?_; rintro e w5 ⟨A5, c5, r5, rfl, hr5, hd5, ht5, hk5⟩) | (go_at_call 16; refine (same_h (w := w5) A4 A5 c4 c5 _ (hr4.out.1.keep hk5.out (fun a ha _ e => by have h1 := hr4.out.2 a ha; have h2 := HR1.out.drew.lt; have e' : a.block = w1.heap.size := e; omega)) hr5.out (by have := HLn.out; omega)).mono ?_; rintro e w6 ⟨rfl, hk6⟩))
          have HD5 := Lib.hid (IsPr.keep (S := Own.One w1.heap.size) (hd4.out) hk5.out (fun e => by have e' : g = w1.heap.size := e; omega))
          have HD := Lib.hid (HD5.out.keep hk6.out id)
          have HR := Lib.hid (IsRp.keep (p := r5) hd5.out hk6.out id)
          have HT := Lib.hid (ht5.out.more (T' := ((j : Int) + 1) * 65536) (by omega))
          have HK := Lib.hid (((HK1.out.drew.trans hk4.out (fun i hi => .inr (by unfold Own.One at hi; omega))).trans hk5.out (fun i hi => .inr (by unfold Own.One at hi; omega))).trans hk6.out (fun i hi => hi.elim))
          clear hr4 hd4 hk4 hr5 hd5 ht5 hk5 hk6 HD1 HR1 HK1 HD0 HR0 HK0 HT0 HB HD5 HC1
          obtain ⟨ps, hps⟩ : ∃ ps, (p.tk m.toNat).2 = ps := ⟨_, rfl⟩
          rw [hps] at HD HT
          clear hps
          go_wp2_with fail
          obtain ⟨pp, po, rp, ro, ron, _, _, cc, l0, l1, x0, x1, v0, v1, t0, t1, eq⟩ := HT.out
          obtain ⟨pper, pov, pon, plf, pnx⟩ := ps
          obtain ⟨rper, rov, ron', rwe, rto⟩ := r5
          obtain rfl : pper = period := pp
          obtain rfl : pov = ov := po
          obtain rfl : rper = pper := rp
          obtain rfl : rov = pov := ro
          obtain rfl : ron' = pon := ron
          obtain ⟨d0, d1, d2, d3, d4, _, _, _, _, _⟩ := IsRp.facts HR.out
          have HE := Lib.hid eq
          have HC := Lib.hid cc
          clear eq cc d0 d1 d4
          cases ron' with
          | true =>
            have bw : (plf != rper - rwe) = false := by have := (HE.out rfl).2.1; simp only at this; simp [this]
            go_wp2_with ((with_reducible refine (Next_on (HD.out) rfl).mono ?_); rintro e w' ⟨rfl, rfl⟩)
            go_roundg (acts.length - (j + 1))
            case measure => rw [HM.out]; omega
            case rel => exact ⟨j + 1, q, _, _, hlt, rfl, by go_num, by omega, by omega, by go_num, HD.out, HR.out, HK.out, HT.out.more (by omega)⟩
          | false =>
            go_wp2_with ((with_reducible refine (Next_off (HD.out) rfl).mono ?_); rintro e w' ⟨rfl, rfl⟩)
            go_roundg (acts.length - (j + 1))
            case measure => rw [HM.out]; omega
            case rel => exact ⟨j + 1, q, _, _, hlt, rfl, by go_num, by omega, by omega, by go_num, HD.out, HR.out, HK.out, HT.out.more (by omega)⟩
        · have kb : (x.kind == 0) = false := by simp [k0]
          by_cases k1 : x.kind = 1
          · have kb1 : (x.kind == 1) = true := by simp [k1]
            clear k0 k1
            have hb2 := HB.out.cell 2
            go_wp2_with fail
            refine (Start_any HD1.out (by rw [HT0.out.po]; exact HV.out) x.on).mono ?_
            rintro e w3 ⟨rfl, hd, hk⟩
            have HD := Lib.hid hd
            have HR3 := Lib.hid (HR1.out.keep hk (fun e => by have e' : w1.heap.size = g := e; omega))
            have HK3 := Lib.hid (HK1.out.trans hk (fun i hi => .inr (by unfold Own.One at hi; omega)))
            have hb3 := (HB.out.keep hk (fun e => by have := HD0.out.lt; have e' : wr.heap.size = g := e; omega)).cell 2
            clear hd hk hb2
            go_wp2_with fail
            refine (RStart_any HR3.out x.on).mono ?_
            rintro e w4 ⟨rfl, hr, hk⟩
            have HR := Lib.hid hr
            have HD4 := Lib.hid (HD.out.keep hk (fun e => by have e' : g = w1.heap.size := e; omega))
            have HK := Lib.hid (HK3.out.trans hk (fun i hi => .inr (by unfold Own.One at hi; omega)))
            have HT := Lib.hid ((HT0.out.start (by omega) x.on).more (T' := ((j : Int) + 1) * 65536) (by omega))
            clear hr hk hb3 HD1 HR1 HK1 HD0 HR0 HK0 HT0 HB HD HR3 HK3
            have HD := HD4
            clear HD4
            obtain ⟨ps, hps⟩ : ∃ ps, p.start x.on = ps := ⟨_, rfl⟩
            obtain ⟨rs, hrs⟩ : ∃ rs, (if x.on && !r.on then { r with on := x.on, went := 0, told := 0 } else { r with on := x.on } : Rp) = rs := ⟨_, rfl⟩
            rw [hps] at HD HT
            rw [hrs] at HR HT
            clear hps hrs
            go_wp2_with fail
            obtain ⟨pp, po, rp, ro, ron, _, _, cc, l0, l1, x0, x1, v0, v1, t0, t1, eq⟩ := HT.out
            obtain ⟨pper, pov, pon, plf, pnx⟩ := ps
            obtain ⟨rper, rov, ron', rwe, rto⟩ := rs
            obtain rfl : pper = period := pp
            obtain rfl : pov = ov := po
            obtain rfl : rper = pper := rp
            obtain rfl : rov = pov := ro
            obtain rfl : ron' = pon := ron
            obtain ⟨d0, d1, d2, d3, d4, _, _, _, _, _⟩ := IsRp.facts HR.out
            have HE := Lib.hid eq
            have HC := Lib.hid cc
            clear eq cc d0 d1 d4
            cases ron' with
            | true =>
              have bw : (plf != rper - rwe) = false := by have := (HE.out rfl).2.1; simp only at this; simp [this]
              go_wp2_with ((with_reducible refine (Next_on (HD.out) rfl).mono ?_); rintro e w' ⟨rfl, rfl⟩)
              go_roundg (acts.length - (j + 1))
              case measure => rw [HM.out]; omega
              case rel => exact ⟨j + 1, q, _, _, hlt, rfl, by go_num, by omega, by omega, by go_num, HD.out, HR.out, HK.out, HT.out.more (by omega)⟩
            | false =>
              go_wp2_with ((with_reducible refine (Next_off (HD.out) rfl).mono ?_); rintro e w' ⟨rfl, rfl⟩)
              go_roundg (acts.length - (j + 1))
              case measure => rw [HM.out]; omega
              case rel => exact ⟨j + 1, q, _, _, hlt, rfl, by go_num, by omega, by omega, by go_num, HD.out, HR.out, HK.out, HT.out.more (by omega)⟩
          · have kb1 : (x.kind == 1) = false := by simp [k1]
            clear k0 k1
            go_wp2_with fail
            have HD : Hid (IsPr _ g p) := HD1
            have HR : Hid (IsRp _ w1.heap.size r) := HR1
            have HK := HK1
            have HT := Lib.hid (HT0.out.more (T' := ((j : Int) + 1) * 65536) (by omega))
            clear HD1 HR1 HK1 HD0 HR0 HK0 HT0 HB
            obtain ⟨pp, po, rp, ro, ron, _, _, cc, l0, l1, x0, x1, v0, v1, t0, t1, eq⟩ := HT.out
            obtain ⟨pper, pov, pon, plf, pnx⟩ := p
            obtain ⟨rper, rov, ron', rwe, rto⟩ := r
            obtain rfl : pper = period := pp
            obtain rfl : pov = ov := po
            obtain rfl : rper = pper := rp
            obtain rfl : rov = pov := ro
            obtain rfl : ron' = pon := ron
            obtain ⟨d0, d1, d2, d3, d4, _, _, _, _, _⟩ := IsRp.facts HR.out
            have HE := Lib.hid eq
            have HC := Lib.hid cc
            clear eq cc d0 d1 d4
            cases ron' with
            | true =>
              have bw : (plf != rper - rwe) = false := by have := (HE.out rfl).2.1; simp only at this; simp [this]
              go_wp2_with ((with_reducible refine (Next_on (HD.out) rfl).mono ?_); rintro e w' ⟨rfl, rfl⟩)
              go_roundg (acts.length - (j + 1))
              case measure => rw [HM.out]; omega
              case rel => exact ⟨j + 1, q, _, _, hlt, rfl, by go_num, by omega, by omega, by go_num, HD.out, HR.out, HK.out, HT.out.more (by omega)⟩
            | false =>
              go_wp2_with ((with_reducible refine (Next_off (HD.out) rfl).mono ?_); rintro e w' ⟨rfl, rfl⟩)
              go_roundg (acts.length - (j + 1))
              case measure => rw [HM.out]; omega
              case rel => exact ⟨j + 1, q, _, _, hlt, rfl, by go_num, by omega, by omega, by go_num, HD.out, HR.out, HK.out, HT.out.more (by omega)⟩
    · have hl1 : ¬ (j : Int) < (acts.length : Int) := by omega
      go_wp2_with ((with_reducible refine (lives_any _).mono ?_); rintro e w' ⟨rfl, hk⟩)
      go_ret
      rename_i hk
      exact ⟨rfl, HK0.out.trans hk.out (fun i hi => hi.elim)⟩
end Go.Proofs.Ytmaajpkkdpaeeaa.Sync
