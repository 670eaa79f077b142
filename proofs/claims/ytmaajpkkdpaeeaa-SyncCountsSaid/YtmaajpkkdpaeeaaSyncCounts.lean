/- SyncCounts's walk. -/
import Derived.Test.YtmaajpkkdpaeeaaSyncF
import Derived.Test.YtmaajpkkdpaeeaaArgs
import Derived.Deep.RegionHeld3
namespace Go.Proofs.Ytmaajpkkdpaeeaa.Sync
open Go.RowKit Go.Proofs.Ytmaajpkkdpaeeaa.Own
structure Tk where
  counter : Int
  ticks : Bool
  n : Int
def TkAt (w : World) (b o : Nat) (x : Tk) : Prop := w.cell? ⟨b, o, none⟩ = some (.int .i64 x.counter) ∧ w.cell? ⟨b, o + 1, none⟩ = some (.bool x.ticks) ∧ w.cell? ⟨b, o + 2, none⟩ = some (.int .u64 x.n) ∧ 0 ≤ x.n ∧ x.n ≤ 18446744073709551615
def TksAt (w : World) (A : Option Addr) (ts : List Tk) : Prop := ∀ i x, ts[i]? = some x → ∃ b o, A = some ⟨b, o, none⟩ ∧ b < w.heap.size ∧ TkAt w b (o + i * 3) x
/-- The two consumers know the same. -/
def Rel (ov : Int) (j : Nat) (c r : Co) : Prop :=
  c.ov = ov ∧ r.ov = ov ∧ r.window = c.window ∧ r.cycle = c.cycle ∧ r.wrong = c.wrong ∧ r.since = c.since ∧ 0 ≤ c.cycle ∧ c.cycle ≤ j ∧ 0 ≤ c.wrong ∧ c.wrong ≤ c.cycle ∧ 0 ≤ c.since ∧ c.since ≤ 18446744073709551615 ∧ 0 ≤ r.next ∧ r.next ≤ 240 ∧ (0 < c.cycle → c.next = after r.next ov ∧ (ov = 0 → r.next = 0))
theorem rel_start (ov win : Int) : Rel ov 0 ⟨ov, win, 0, 0, 0, 0⟩ ⟨ov, win, 0, 0, 0, 0⟩ := by
  unfold Rel
  simp
theorem rel_tick {ov : Int} {j : Nat} {c r : Co} (h : Rel ov j c r) (n : Int) (n0 : 0 ≤ n) : Rel ov (j + 1) { c with since := min (c.since + n) 18446744073709551615 } { r with since := min (r.since + n) 18446744073709551615 } := by
  obtain ⟨h1, h2, h3, h4, h5, h6, h7, h8, h9, h10, h11, h12, h13, h14, h15⟩ := h
  exact ⟨h1, h2, h3, h4, h5, by simp only [h6], h7, by simp only; omega, h9, h10, by simp only; omega, by simp only; omega, h13, h14, h15⟩
theorem rel_bad {ov : Int} {j : Nat} {c r : Co} (h : Rel ov j c r) (hov : Cnt ov) (x : Int) (hf : Fits ov x) : Bad r x ↔ ¬ (c.cycle = 0 ∨ x = c.next) := by
  obtain ⟨h1, h2, h3, h4, h5, h6, h7, h8, h9, h10, h11, h12, h13, h14, h15⟩ := h
  unfold Bad
  rw [h2, h4]
  by_cases hc : 0 < c.cycle
  · obtain ⟨k1, k2⟩ := h15 hc
    rw [k1]
    unfold after Fits Cnt at *
    by_cases h0 : ov = 0
    · rw [if_pos h0] at hf ⊢
      constructor
      · rintro ⟨_, k, _⟩; omega
      · intro k; exact absurd (.inr hf) k
    · rw [if_neg h0] at hf ⊢
      constructor
      · rintro ⟨_, _, k⟩ (e | e)
        · omega
        · exact k e
      · intro k
        exact ⟨hc, by omega, fun e => k (.inr e)⟩
  · constructor
    · rintro ⟨k, _⟩; omega
    · intro k; exact absurd (.inl (by omega)) k
theorem rel_take {ov : Int} {j : Nat} {c r : Co} (h : Rel ov j c r) (hov : Cnt ov) (x : Int) (hf : Fits ov x) :
    Rel ov (j + 1) { c with next := after x c.ov, cycle := c.cycle + 1, wrong := if c.cycle = 0 ∨ x = c.next then c.wrong else c.wrong + 1, since := 0 } { r with next := x, cycle := r.cycle + 1, wrong := if Bad r x then r.wrong + 1 else r.wrong, since := 0 } := by
  have hb := rel_bad h hov x hf
  obtain ⟨h1, h2, h3, h4, h5, h6, h7, h8, h9, h10, h11, h12, h13, h14, h15⟩ := h
  have hx : 0 ≤ x ∧ x ≤ 240 := by unfold Fits Cnt at *; split at hf <;> omega
  refine ⟨h1, h2, h3, by simp only [h4], ?_, rfl, by simp only; omega, by simp only; omega, ?_, ?_, by simp, by simp, hx.1, hx.2, fun _ => ⟨by simp only [h1], fun h0 => by unfold Fits at hf; rw [if_pos h0] at hf; exact hf⟩⟩
  · simp only
    by_cases k : c.cycle = 0 ∨ x = c.next
    · rw [if_pos k, if_neg (fun e => (hb.1 e) k), h5]
    · rw [if_neg k, if_pos (hb.2 k), h5]
  · simp only; split <;> omega
  · simp only; split <;> omega
theorem rel_next {ov : Int} {j : Nat} {c r : Co} (h : Rel ov j c r) : Rel ov (j + 1) c r := by
  obtain ⟨h1, h2, h3, h4, h5, h6, h7, h8, h9⟩ := h
  exact ⟨h1, h2, h3, h4, h5, h6, h7, by omega, h9⟩
theorem Take_r {w : World} {g : Nat} {c : Co} (h : IsCo 68 w g c) (hc : Cnt c.ov) (y : 0 ≤ c.cycle ∧ c.cycle ≤ 1000000000000000 ∧ 0 ≤ c.wrong ∧ c.wrong ≤ 1000000000000000) (x : Int) (hf : Fits c.ov x) (r : Int) (hr : r = if c.cycle = 0 ∨ x = c.next then 0 else 6) :
    Calls Try.prog 13 #[.pointer (some ⟨g, 0, none⟩), .int .i64 x] w fun e w' => e = .returned (.int .i64 r) ∧ Hid (IsCo 68 w' g { c with next := after x c.ov, cycle := c.cycle + 1, wrong := if c.cycle = 0 ∨ x = c.next then c.wrong else c.wrong + 1, since := 0 }) ∧ Hid (Keep (Own.One g) w w') := by
  refine (Take_yes h hc y.1 y.2.1 y.2.2.1 y.2.2.2 x hf).mono ?_
  rintro e w' ⟨⟨q, he, hq⟩, h2, h3⟩
  refine ⟨?_, h2, h3⟩
  rw [he, hq.out, hr]
theorem RTake_r {w : World} {g : Nat} {c : Co} (h : IsCo 60 w g c) (hc : Cnt c.ov) (y : 0 ≤ c.cycle ∧ c.cycle ≤ 1000000000000000 ∧ 0 ≤ c.wrong ∧ c.wrong ≤ 1000000000000000) (z : 0 ≤ c.next ∧ c.next ≤ 240) (x : Int) (hf : Fits c.ov x) (r : Int) (hr : r = if Bad c x then 6 else 0) :
    Calls Try.prog 24 #[.pointer (some ⟨g, 0, none⟩), .int .i64 x] w fun e w' => e = .returned (.int .i64 r) ∧ Hid (IsCo 60 w' g { c with next := x, cycle := c.cycle + 1, wrong := if Bad c x then c.wrong + 1 else c.wrong, since := 0 }) ∧ Hid (Keep (Own.One g) w w') := by
  refine (RTake_yes h hc y.1 y.2.1 y.2.2.1 y.2.2.2 z.1 z.2 x hf).mono ?_
  rintro e w' ⟨⟨q, he, hq⟩, h2, h3⟩
  refine ⟨?_, h2, h3⟩
  rw [he, hq.out, hr]
theorem RTake_no8 {w : World} {g : Nat} {c : Co} (h : IsCo 60 w g c) (hc : Cnt c.ov) (x : Int) (hf : ¬ Fits c.ov x) : Calls Try.prog 24 #[.pointer (some ⟨g, 0, none⟩), .int .i64 x] w fun e w' => e = .returned (.int .i64 8) ∧ Hid (Keep Zero w w') := RTake_no h hc x hf
set_option maxRecDepth 100000 in
set_option maxHeartbeats 8000000 in
theorem counts_walk (ov win : Int) (hov : Cnt ov) (win1 : win ≤ 4294967296) (A : Option Addr) (c : Nat) (ts : List Tk) (w : World) (ha : TksAt w A ts) (hl : ts.length ≤ 100000000000000) :
    Calls Try.prog 7 #[.int .i64 ov, .int .u64 win, .slice A ts.length c] w fun e w' => e = .returned (.bool true) ∧ Hid (Keep Zero w w') := by
  have HA := Lib.hid ha
  have HV := Lib.hid hov
  have hb : true = decide (Cnt ov) := by simp [hov]
  have HB := Lib.hid hb
  have b2 : decide (4294967296 < win) = false := by simp; omega
  clear ha hb hov
  go_enter Try.func7, Try.ntmps7
  go_wp2_with fail
  refine (NewC_ok ov win HV.out win1 _).mono ?_
  rintro e w1 ⟨g, rfl, hd, hg, hk⟩
  have HC := Lib.hid (hd.alloc (.cells #[.int .i64 ov, .int .u64 win, .int .i64 0, .int .u64 0, .int .u64 0, .int .u64 0] 60))
  have HR : Hid (IsCo 60 (w1.alloc (.cells #[.int .i64 ov, .int .u64 win, .int .i64 0, .int .u64 0, .int .u64 0, .int .u64 0] 60)) w1.heap.size ⟨ov, win, 0, 0, 0, 0⟩) := Blk.new _ _ _
  have HK := Lib.hid (hk.alloc (.cells #[.int .i64 ov, .int .u64 win, .int .i64 0, .int .u64 0, .int .u64 0, .int .u64 0] 60))
  have g1 : g < w1.heap.size := hd.lt
  have ww : w.heap.size ≤ w1.heap.size := hk.size
  clear hd hk
  go_wp2_with ((with_reducible refine (RCounts_any ov true HB.out _).mono ?_); rintro e w' ⟨rfl, rfl⟩)
  go_loopg [10] ts.length (fun k i wr => ∃ (j : Nat) (c r : Co), j ≤ ts.length ∧ k = ts.length - j ∧ i = .int .i64 j ∧ IsCo 68 wr g c ∧ IsCo 60 wr w1.heap.size r ∧ Keep Zero w wr ∧ Rel ov j c r)
  case atStart => exact ⟨0, _, _, Nat.zero_le _, rfl, rfl, HC.out, HR.out, HK.out, rel_start ov win⟩
  case round =>
    obtain ⟨j, c, r, hj, hk, rfl, hc, hr, hkp, hrl⟩ := hrel
    clear HC HR HK
    have HC1 := Lib.hid hc
    have HR1 := Lib.hid hr
    have HK1 := Lib.hid hkp
    have HM := Lib.hid hk
    have HL := Lib.hid hrl
    clear hc hr hkp hk hrl
    by_cases hlt : j < ts.length
    · obtain ⟨x, hx⟩ : ∃ x, ts[j]? = some x := ⟨ts[j], List.getElem?_eq_getElem hlt⟩
      obtain ⟨b, o, rfl, hb, hc0, hc1, hc2, n0, n1⟩ := HA.out j x hx
      clear hx
      have HCell := Lib.hid (And.intro hc0 (And.intro hc1 hc2))
      have z0 := ((HK1.out.cell (p := ⟨b, o + j * 3, none⟩) hb id).trans hc0)
      have z1 := ((HK1.out.cell (p := ⟨b, o + j * 3 + 1, none⟩) hb id).trans hc1)
      have z2 := ((HK1.out.cell (p := ⟨b, o + j * 3 + 2, none⟩) hb id).trans hc2)
      have hl1 : (j : Int) < (ts.length : Int) := by omega
      have hbw : b < wr.heap.size := Nat.lt_of_lt_of_le hb HK1.out.size
      have s0 := HL.out.2.2.2.2.2.2.2.2.2.2.1
      have s1 := HL.out.2.2.2.2.2.2.2.2.2.2.2.1
      have HS := Lib.hid (And.intro s0 s1)
      clear hc0 hc1 hc2 s0 s1
      have HN1 : Hid (¬ Own.One g w1.heap.size) := fun e => by unfold Own.One at e; omega
      have HN2 : Hid (¬ Own.One w1.heap.size g) := fun e => by unfold Own.One at e; omega
      have HN3 : Hid (¬ Own.One g b) := fun e => by unfold Own.One at e; omega
      have HN4 : Hid (¬ Own.One w1.heap.size b) := fun e => by unfold Own.One at e; omega
      have HZ1 : Hid (∀ i, Own.One g i → Zero i ∨ w.heap.size ≤ i) := fun i hi => .inr (by unfold Own.One at hi; omega)
      have HZ2 : Hid (∀ i, Own.One w1.heap.size i → Zero i ∨ w.heap.size ≤ i) := fun i hi => .inr (by unfold Own.One at hi; omega)
      cases ht : x.ticks with
      | true =>
        rw [ht] at z1
        clear ht
        go_wp2_with fail
        refine (CTick_any HC1.out HS.out.1 HS.out.2 x.n n0 n1).mono ?_
        rintro e w3 ⟨rfl, hc3, hk3⟩
        have HC3 : Hid (IsCo 68 w3 g _) := Lib.hid hc3
        have HR3 := Lib.hid (HR1.out.keep hk3 HN1.out)
        have HK3 := Lib.hid (HK1.out.trans hk3 HZ1.out)
        have y2 := (hk3.cell (p := ⟨b, o + j * 3 + 2, none⟩) hbw HN3.out).trans z2
        have HE := Lib.hid HL.out.2.2.2.2.2.1
        clear hc3 hk3 z0 z1 z2
        go_wp2_with fail
        refine (RCTick_any HR3.out (by rw [HE.out]; exact HS.out.1) (by rw [HE.out]; exact HS.out.2) x.n n0 n1).mono ?_
        rintro e w4 ⟨rfl, hr4, hk4⟩
        have HR5 : Hid (IsCo 60 w4 w1.heap.size _) := Lib.hid hr4
        have HC5 := Lib.hid (HC3.out.keep hk4 HN2.out)
        have HK5 := Lib.hid (HK3.out.trans hk4 HZ2.out)
        have HRel := Lib.hid (rel_tick HL.out x.n n0)
        clear hr4 hk4 y2
        generalize ({ c with since := min (c.since + x.n) 18446744073709551615 } : Co) = c9 at *
        generalize ({ r with since := min (r.since + x.n) 18446744073709551615 } : Co) = r9 at *
        have hop : Co.isOpen r9 = Co.isOpen c9 := by unfold Co.isOpen; rw [HRel.out.2.2.1, HRel.out.2.2.2.1, HRel.out.2.2.2.2.2.1]
        obtain ⟨ob, hob⟩ : ∃ b, Co.isOpen c9 = b := ⟨_, rfl⟩
        have HOb := Lib.hid hob
        have HOr : Hid (Co.isOpen r9 = ob) := Lib.hid (hop.trans hob)
        clear hop hob
        obtain ⟨d0, d1, d2, d3, d4, d5, _, _, _, _, _, _⟩ := HR5.out.facts
        rw [HRel.out.2.2.2.1] at d3
        rw [HRel.out.2.2.2.2.1] at d4
        go_wp2_with fail
        go_quiet ((first | (go_at_call 20; exact Calls.quiet_of (Open_is HC5.out HOb.out)) | (go_at_call 25; exact Calls.quiet_of (ROpen_is HR5.out HOr.out)) | (go_at_call 22; exact quiet_eq (Cycle_is HC5.out)) | (go_at_call 14; exact quiet_eq (Wrong_is HC5.out))))
        go_wp2_with fail
        go_roundg (ts.length - (j + 1))
        case measure => rw [HM.out]; omega
        case rel => exact ⟨j + 1, c9, r9, hlt, rfl, by go_num, HC5.out.drewN _, HR5.out.drewN _, HK5.out.drewN _, HRel.out⟩
      | false =>
        rw [ht] at z1
        clear ht
        by_cases hf : Fits ov x.counter
        · have HF := Lib.hid hf
          obtain ⟨rv, hrv⟩ : ∃ rv : Int, rv = if c.cycle = 0 ∨ x.counter = c.next then 0 else 6 := ⟨_, rfl⟩
          have HR1v := Lib.hid hrv
          have hrv2 : rv = if Bad r x.counter then 6 else 0 := by
            have hb := rel_bad HL.out HV.out x.counter hf
            rw [hrv]
            by_cases k : c.cycle = 0 ∨ x.counter = c.next
            · rw [if_pos k, if_neg (fun e => (hb.1 e) k)]
            · rw [if_neg k, if_pos (hb.2 k)]
          have HR2v := Lib.hid hrv2
          clear hf hrv hrv2
          have HC0 : Hid (wr.drew.cell? ⟨b, o + j * 3, none⟩ = some (.int .i64 x.counter)) := z0
          have HQ : Hid ((c.ov = ov ∧ r.ov = ov) ∧ (0 ≤ c.cycle ∧ c.cycle ≤ 1000000000000000 ∧ 0 ≤ c.wrong ∧ c.wrong ≤ 1000000000000000) ∧ (0 ≤ r.cycle ∧ r.cycle ≤ 1000000000000000 ∧ 0 ≤ r.wrong ∧ r.wrong ≤ 1000000000000000) ∧ 0 ≤ r.next ∧ r.next ≤ 240) := by
            obtain ⟨h1, h2, h3, h4, h5, h6, h7, h8, h9, h10, h11, h12, h13, h14, h15⟩ := HL.out
            exact ⟨⟨h1, h2⟩, ⟨h7, by omega, h9, by omega⟩, ⟨by omega, by omega, by omega, by omega⟩, h13, h14⟩
          have HBw : Hid (b < wr.drew.heap.size) := hbw
          go_wp2_with fail
          go_region_held3 (fun w' => w'.cell? ⟨b, o + j * 3, none⟩ = some (.int .i64 x.counter)) (first | (go_keep; done) | exact (hk4.out.cell (p := ⟨b, o + j * 3, none⟩) HBw.out HN3.out).trans HC0.out | exact (hk5.out.cell (p := ⟨b, o + j * 3, none⟩) (Nat.lt_of_lt_of_le HBw.out hk4.out.size) HN4.out).trans ((hk4.out.cell (p := ⟨b, o + j * 3, none⟩) HBw.out HN3.out).trans HC0.out)) (first | (go_at_call 13; refine (Take_r (w := wr.drew) (Blk.drew HC1.out) (by rw [HQ.out.1.1]; exact HV.out) HQ.out.2.1 x.counter (by rw [HQ.out.1.1]; exact HF.out) rv HR1v.out).mono ?_; rintro e w4 ⟨rfl, hc4, hk4⟩) | (go_at_call 24; refine (RTake_r (Blk.keep (Blk.drew HR1.out) hk4.out HN1.out) (by rw [HQ.out.1.2]; exact HV.out) HQ.out.2.2.1 HQ.out.2.2.2 x.counter (by rw [HQ.out.1.2]; exact HF.out) rv HR2v.out).mono ?_; rintro e w5 ⟨rfl, hr5, hk5⟩))
          have HRel := Lib.hid (rel_take HL.out HV.out x.counter HF.out)
          have HR5 := hr5
          have HC5 := Lib.hid (IsCo.keep hc4.out hk5.out HN2.out)
          have HK5 := Lib.hid ((HK1.out.drew.trans hk4.out HZ1.out).trans hk5.out HZ2.out)
          clear hr5 hc4 hk4 hk5 HQ HC0 HBw HR1v HR2v z0 z1 z2
          generalize ({ c with next := after x.counter c.ov, cycle := c.cycle + 1, wrong := if c.cycle = 0 ∨ x.counter = c.next then c.wrong else c.wrong + 1, since := 0 } : Co) = c9 at *
          generalize ({ r with next := x.counter, cycle := r.cycle + 1, wrong := if Bad r x.counter then r.wrong + 1 else r.wrong, since := 0 } : Co) = r9 at *
          go_wp2_with fail
          have hop : Co.isOpen r9 = Co.isOpen c9 := by unfold Co.isOpen; rw [HRel.out.2.2.1, HRel.out.2.2.2.1, HRel.out.2.2.2.2.2.1]
          obtain ⟨ob, hob⟩ : ∃ b, Co.isOpen c9 = b := ⟨_, rfl⟩
          have HOb := Lib.hid hob
          have HOr : Hid (Co.isOpen r9 = ob) := Lib.hid (hop.trans hob)
          clear hop hob
          obtain ⟨d0, d1, d2, d3, d4, d5, _, _, _, _, _, _⟩ := HR5.out.facts
          rw [HRel.out.2.2.2.1] at d3
          rw [HRel.out.2.2.2.2.1] at d4
          go_wp2_with fail
          go_quiet ((first | (go_at_call 20; exact Calls.quiet_of (Open_is HC5.out HOb.out)) | (go_at_call 25; exact Calls.quiet_of (ROpen_is HR5.out HOr.out)) | (go_at_call 22; exact quiet_eq (Cycle_is HC5.out)) | (go_at_call 14; exact quiet_eq (Wrong_is HC5.out))))
          go_wp2_with fail
          go_roundg (ts.length - (j + 1))
          case measure => rw [HM.out]; omega
          case rel => exact ⟨j + 1, c9, r9, hlt, rfl, by go_num, HC5.out.drewN _, HR5.out.drewN _, HK5.out.drewN _, HRel.out⟩
        · have HF := Lib.hid hf
          clear hf
          have HC0 : Hid (wr.drew.cell? ⟨b, o + j * 3, none⟩ = some (.int .i64 x.counter)) := z0
          have HQ : Hid (c.ov = ov ∧ r.ov = ov) := ⟨HL.out.1, HL.out.2.1⟩
          have HBw : Hid (b < wr.drew.heap.size) := hbw
          go_wp2_with fail
          go_region_held3 (fun w' => w'.cell? ⟨b, o + j * 3, none⟩ = some (.int .i64 x.counter)) (first | (go_keep; done) | exact (hk5.out.cell (p := ⟨b, o + j * 3, none⟩) HBw.out id).trans HC0.out) (first | (go_at_call 13; refine (Take_no (w := wr.drew) (Blk.drew HC1.out) (by rw [HQ.out.1]; exact HV.out) x.counter (by rw [HQ.out.1]; exact HF.out)).mono ?_; rintro e w4 ⟨rfl, rfl⟩) | (go_at_call 24; refine (RTake_no8 (Blk.drew HR1.out) (by rw [HQ.out.2]; exact HV.out) x.counter (by rw [HQ.out.2]; exact HF.out)).mono ?_; rintro e w5 ⟨rfl, hk5⟩))
          have HRel := Lib.hid (rel_next HL.out)
          have HR5 : Hid (IsCo 60 w5 w1.heap.size r) := Lib.hid (Blk.keep (Blk.drew HR1.out) hk5.out id)
          have HC5 : Hid (IsCo 68 w5 g c) := Lib.hid (Blk.keep (Blk.drew HC1.out) hk5.out id)
          have HK5 := Lib.hid (HK1.out.drew.trans hk5.out (fun i hi => hi.elim))
          clear hk5 HQ HC0 HBw z0 z1 z2
          go_wp2_with fail
          have hop : Co.isOpen r = Co.isOpen c := by unfold Co.isOpen; rw [HRel.out.2.2.1, HRel.out.2.2.2.1, HRel.out.2.2.2.2.2.1]
          obtain ⟨ob, hob⟩ : ∃ b, Co.isOpen c = b := ⟨_, rfl⟩
          have HOb := Lib.hid hob
          have HOr : Hid (Co.isOpen r = ob) := Lib.hid (hop.trans hob)
          clear hop hob
          obtain ⟨d0, d1, d2, d3, d4, d5, _, _, _, _, _, _⟩ := HR5.out.facts
          rw [HRel.out.2.2.2.1] at d3
          rw [HRel.out.2.2.2.2.1] at d4
          go_wp2_with fail
          go_quiet ((first | (go_at_call 20; exact Calls.quiet_of (Open_is HC5.out HOb.out)) | (go_at_call 25; exact Calls.quiet_of (ROpen_is HR5.out HOr.out)) | (go_at_call 22; exact quiet_eq (Cycle_is HC5.out)) | (go_at_call 14; exact quiet_eq (Wrong_is HC5.out))))
          go_wp2_with fail
          go_roundg (ts.length - (j + 1))
          case measure => rw [HM.out]; omega
          case rel => exact ⟨j + 1, c, r, hlt, rfl, by go_num, HC5.out.drewN _, HR5.out.drewN _, HK5.out.drewN _, HRel.out⟩
    · have hl1 : ¬ (j : Int) < (ts.length : Int) := by omega
      go_wp2_with ((with_reducible refine (lives_any _).mono ?_); rintro e w' ⟨rfl, hk⟩)
      go_ret
      rename_i hk
      exact ⟨rfl, Lib.hid (HK1.out.trans hk.out (fun i hi => hi.elim))⟩
end Go.Proofs.Ytmaajpkkdpaeeaa.Sync
