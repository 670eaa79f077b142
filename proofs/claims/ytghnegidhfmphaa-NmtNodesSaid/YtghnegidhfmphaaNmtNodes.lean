/- NmtNodes's walk. -/
import Derived.Test.YtghnegidhfmphaaNmtF
import Derived.Test.YtghnegidhfmphaaNmtArgs
import Derived.Deep.RegionHeld3
namespace Go.Proofs.Ytghnegidhfmphaa.Nmt
open Go.RowKit Go.Proofs.Ytghnegidhfmphaa.Own

set_option maxRecDepth 100000 in
set_option maxHeartbeats 4000000 in
theorem nodes_bad (id : Int) (hid : id < 0 ∨ 127 < id) (v : Value) (w : World) : Calls Try.prog 6 #[.int .i64 id, v] w fun e w' => e = .returned (.bool true) ∧ Keep Zero w w' := by
  have HID := Lib.hid hid
  by_cases h0 : id < 0
  · have t0 : decide (id < 0) = true := decide_eq_true h0
    clear hid h0
    go_enter Try.func6, Try.ntmps6
    go_wp2_with (first | ((with_reducible refine (New_bad id HID.out _).mono ?_); rintro e w' ⟨rfl, rfl⟩) | ((with_reducible refine (lives_any _).mono ?_); rintro e w' ⟨rfl, hk⟩))
    go_ret
    exact ⟨rfl, by assumption⟩
  · have t0 : decide (id < 0) = false := decide_eq_false h0
    have t1 : decide (127 < id) = true := decide_eq_true (hid.resolve_left h0)
    clear hid h0
    go_enter Try.func6, Try.ntmps6
    go_wp2_with (first | ((with_reducible refine (New_bad id HID.out _).mono ?_); rintro e w' ⟨rfl, rfl⟩) | ((with_reducible refine (lives_any _).mono ?_); rintro e w' ⟨rfl, hk⟩))
    go_ret
    exact ⟨rfl, by assumption⟩

theorem State_is {w : World} {g : Nat} {d : Nd} {n : Nat} (h : IsNd w g d) : Calls Try.prog 11 #[.pointer (some ⟨g, 0, none⟩)] (w.drewN n) fun e w' => e = .returned (.int .i64 d.state) ∧ w.drewN n = w' := State_any (w := w.drewN n) h
theorem ID_is {w : World} {g : Nat} {d : Nd} {n : Nat} (h : IsNd w g d) : Calls Try.prog 16 #[.pointer (some ⟨g, 0, none⟩)] (w.drewN n) fun e w' => e = .returned (.int .i64 d.id) ∧ w.drewN n = w' := ID_any (w := w.drewN n) h

set_option maxRecDepth 100000 in
set_option maxHeartbeats 8000000 in
theorem nodes_walk (A : Option Addr) (c : Nat) (acts : List NAct) (w : World) (ha : ActsAt w A acts) (hl : acts.length ≤ 9223372036854775807) (nid : Int) (id0 : 0 ≤ nid) (id1 : nid ≤ 127) :
    Calls Try.prog 6 #[.int .i64 nid, .slice A acts.length c] w fun e w' => e = .returned (.bool true) ∧ Keep Zero w w' := by
  have HA := Lib.hid ha
  clear ha
  have t0 : decide (nid < 0) = false := by simp; omega
  have t1 : decide (127 < nid) = false := by simp; omega
  go_enter Try.func6, Try.ntmps6
  go_wp2_with fail
  refine (New_ok nid id0 id1 _).mono ?_
  rintro e w1 ⟨g, rfl, hd, hg, hk⟩
  have HD := Lib.hid (hd.alloc (.cells (Nd.mk nid nid 0 0 0).cells 40))
  have HF : Hid (IsRf (w1.alloc (.cells (Nd.mk nid nid 0 0 0).cells 40)) w1.heap.size ⟨nid, nid, 0, 0, 0⟩) := Blk.new _ _ _
  have HK := Lib.hid (hk.alloc (.cells (Nd.mk nid nid 0 0 0).cells 40))
  have hg1 : g < w1.heap.size := hd.lt
  have hw1 : w.heap.size ≤ w1.heap.size := hk.size
  clear hd hk
  go_wp2_with fail
  go_loopg [8] acts.length (fun k i wr => ∃ (j : Nat) (d : Nd), j ≤ acts.length ∧ k = acts.length - j ∧ i = .int .i64 j ∧ IsNd wr g d ∧ IsRf wr w1.heap.size d ∧ Keep Zero w wr)
  case atStart => exact ⟨0, _, Nat.zero_le _, rfl, rfl, HD.out, HF.out, HK.out⟩
  case round =>
    obtain ⟨j, d, hj, hk, rfl, hd, hf, hkp⟩ := hrel
    have HD1 := Lib.hid hd
    have HF1 := Lib.hid hf
    have HK1 := Lib.hid hkp
    have HM := Lib.hid hk
    clear hd hf hkp hk
    by_cases hlt : j < acts.length
    · obtain ⟨x, hx⟩ : ∃ x, acts[j]? = some x := ⟨acts[j], List.getElem?_eq_getElem hlt⟩
      have HX := Lib.hid hx
      obtain ⟨b, o, rfl, hb, hc0, hc1, Ab, cb, hc2, hgot, hnil, hsz⟩ := HA.out j x hx
      clear hx
      have hc0' := ((HK1.out.cell (p := ⟨b, o + j * 3, none⟩) hb id).trans hc0)
      have hc1' := ((HK1.out.cell (p := ⟨b, o + j * 3 + 1, none⟩) hb id).trans hc1)
      have hc2' := ((HK1.out.cell (p := ⟨b, o + j * 3 + 2, none⟩) hb id).trans hc2)
      have HG := Lib.hid hgot
      clear hc0 hc1 hc2 hgot
      have HN := Lib.hid hnil
      clear hnil
      have HR := Lib.hid HG.out.row
      have hl1 : (j : Int) < (acts.length : Int) := by omega
      have hbw : b < wr.heap.size := Nat.lt_of_lt_of_le hb HK1.out.size
      have HS := Lib.hid HK1.out.size
      by_cases k0 : x.kind = 0
      · have e0 : (x.kind == 0) = true := by simp [k0]
        have e1 : (x.kind == 1) = false := by simp [k0]
        have e2 : (x.kind == 2) = false := by simp [k0]
        clear k0
        have HD3 := Lib.hid (HD1.out.alloc (.cells #[.int .i64 x.kind, .int .i64 x.n, .slice Ab x.b.length cb] 29))
        have HF3 := Lib.hid (HF1.out.alloc (.cells #[.int .i64 x.kind, .int .i64 x.n, .slice Ab x.b.length cb] 29))
        have HK3 := Lib.hid (HK1.out.alloc (.cells #[.int .i64 x.kind, .int .i64 x.n, .slice Ab x.b.length cb] 29))
        go_wp2_with fail
        obtain ⟨r, hr⟩ : ∃ r : Int, r = d.cmd x.b := ⟨_, rfl⟩
        have HRR := Lib.hid hr
        clear hr
        have HW1 : Hid (¬ Own.One g w1.heap.size) := fun e => by cases e; exact absurd hg1 (Nat.lt_irrefl _)
        have HNg : Hid (¬ Own.One g wr.heap.size) := fun e => by cases e; exact absurd HD1.out.lt (Nat.lt_irrefl _)
        have HNf : Hid (¬ Own.One w1.heap.size wr.heap.size) := fun e => by have := HF1.out.lt; unfold Own.One at e; omega
        have HNn : Hid (¬ Own.One (wr.heap.size + 1) wr.heap.size) := fun e => by unfold Own.One at e; omega
        have HC : Hid (((wr.alloc (.cells #[.int .i64 x.kind, .int .i64 x.n, .slice Ab x.b.length cb] 29)).drew.alloc (.cells #[] 5)).cell? ⟨wr.heap.size, 2, none⟩ = some (.slice Ab x.b.length cb)) := Blk.cell ((Blk.drew (Blk.new wr _ _)).alloc _) 2
        have HL : Hid (wr.heap.size < ((wr.alloc (.cells #[.int .i64 x.kind, .int .i64 x.n, .slice Ab x.b.length cb] 29)).drew.alloc (.cells #[] 5)).heap.size) := Blk.lt ((Blk.drew (Blk.new wr _ _)).alloc _)
        have HRow : Hid (Row ((wr.alloc (.cells #[.int .i64 x.kind, .int .i64 x.n, .slice Ab x.b.length cb] 29)).drew.alloc (.cells #[] 5)) Ab (ints .u8 x.b)) := (HR.out.keep ((HK3.out.drew).alloc _) (fun _ _ _ => id))
        have HDn := Lib.hid (HD3.out.drew.alloc (.cells #[] 5))
        have HFn := Lib.hid (HF3.out.drew.alloc (.cells #[] 5))
        have HKn := Lib.hid (HK3.out.drew.alloc (.cells #[] 5))
        have HGn : Hid (g < wr.heap.size + 1) := Nat.lt_succ_of_lt HD1.out.lt
        have HZn : Hid (¬ Own.One (wr.heap.size + 1) g) := fun e => by have := HD1.out.lt; unfold Own.One at e; omega
        have hz1 : Hid (∀ i, Own.One (wr.heap.size + 1) i → Zero i ∨ w.heap.size ≤ i) := fun i hi => .inr (by have := HS.out; unfold Own.One at hi; omega)
        have hz2 : Hid (∀ i, Own.One g i → Zero i ∨ w.heap.size ≤ i) := fun i hi => .inr (by unfold Own.One at hi; omega)
        have HO : Hid (∀ a, Ab = some a → x.b ≠ [] → a.block ≠ w1.heap.size) := fun a ha hn e => by have := HR.out.old ha (ints_ne hn); omega
        have HZf : Hid (¬ Own.One (wr.heap.size + 1) w1.heap.size) := fun e => by have := HF1.out.lt; unfold Own.One at e; omega
        go_region_held3 (fun w' => w'.cell? ⟨wr.heap.size, 2, none⟩ = some (.slice Ab x.b.length cb)) (first | exact HC.out | go_keep | exact (hk4.cell (p := ⟨wr.heap.size, 2, none⟩) HL.out HNn.out).trans HC.out | exact (hk5.out.cell (p := ⟨wr.heap.size, 2, none⟩) (Nat.lt_of_lt_of_le HL.out hk4.size) HNg.out).trans ((hk4.cell (p := ⟨wr.heap.size, 2, none⟩) HL.out HNn.out).trans HC.out) | exact (hk6.out.cell (p := ⟨wr.heap.size, 2, none⟩) (Nat.lt_of_lt_of_le (Nat.lt_of_lt_of_le HL.out hk4.size) hk5.out.size) HNf.out).trans ((hk5.out.cell (p := ⟨wr.heap.size, 2, none⟩) (Nat.lt_of_lt_of_le HL.out hk4.size) HNg.out).trans ((hk4.cell (p := ⟨wr.heap.size, 2, none⟩) HL.out HNn.out).trans HC.out))) (first | ((refine step_copy (by rfl) (.tmp 60) (.tmp 62) 27 (by rfl) 5 (.int .u8 0) 1 1 under27 info5 (by rfl) (by decide) (wr.heap.size + 1) (by rfl) (Blk.at_ (by simp)) Ab x.b.length cb (ints .u8 x.b) (by rfl) (by rw [ints_length]; omega) HN.out HRow.out (ints_one _ _) (by unfold maxLen; omega) (by omega) ?_; intro A' c' w4 q1 q2 hr4 hk4 ha4)) | (go_at_call 10; refine (Take_r (HDn.out.keep hk4 HZn.out) A' x.b.length c' x.b ⟨rfl, hr4, HG.out.byte⟩ (fun a ha _ e => absurd (e ▸ ha4 a ha) (Nat.not_le.2 HGn.out)) r HRR.out).mono ?_; rintro e w5 ⟨rfl, hd5, hk5⟩) | (go_at_call 17; refine (RTake_r ((HFn.out.keep hk4 HZf.out).keep hk5.out HW1.out) Ab x.b.length cb x.b ⟨rfl, HR.out.keep ((HKn.out.trans hk4 hz1.out).trans hk5.out hz2.out) (fun _ _ _ => id), HG.out.byte⟩ HO.out r HRR.out).mono ?_; rintro e w6 ⟨rfl, hf6, hk6⟩))
        have HD6 := Lib.hid ((hd5.out.keep hk6.out (fun e => by cases e; exact absurd hg1 (Nat.lt_irrefl _))))
        have HK6 := Lib.hid (((HKn.out.trans hk4 hz1.out).trans hk5.out hz2.out).trans hk6.out (fun i hi => .inr (by cases hi; exact hw1)))
        clear HD3 HF3 HK3
        obtain ⟨HD3, HF3, HK3⟩ : Hid (IsNd w6 g (d.does r)) ∧ Hid (IsRf w6 w1.heap.size (d.does r)) ∧ Hid (Keep Zero w w6) := ⟨HD6, hf6, HK6⟩
        clear HD6 hf6 HK6 hk4 hk5 hk6 hd5 HC HL HRow HDn HFn HKn hr4 ha4 q1 q2
        generalize d.does r = d2 at *
        go_wp2_with fail
        refine (Boots_keep HD3.out).mono ?_
        rintro e w5 ⟨rfl, hk5⟩
        have HD5 : Hid (IsNd w5 g d2) := Lib.hid (HD3.out.keep hk5 id)
        have HF5 : Hid (IsRf w5 w1.heap.size d2) := Lib.hid (HF3.out.keep hk5 id)
        have HK5 := Lib.hid (HK3.out.trans hk5 (fun i hi => hi.elim))
        clear hk5
        obtain ⟨f0, f1, f2, f3, f4, _, _, _, _, _⟩ := HF5.out.facts
        go_wp2_with fail
        go_quiet ((first | (go_at_call 11; exact quiet_eq (State_is HD5.out)) | (go_at_call 16; exact quiet_eq (ID_is HD5.out))))
        go_wp2
        go_roundg (acts.length - (j + 1))
        case measure => rw [HM.out]; omega
        case rel => exact ⟨j + 1, d2, hlt, rfl, by go_num, HD5.out.drewN _, HF5.out.drewN _, HK5.out.drewN _⟩
      by_cases k1 : x.kind = 1
      · have e0 : (x.kind == 0) = false := by simp [k1]
        have e1 : (x.kind == 1) = true := by simp [k1]
        have e2 : (x.kind == 2) = false := by simp [k1]
        clear k0 k1
        have HD2 := Lib.hid (HD1.out.alloc (.cells #[.int .i64 x.kind, .int .i64 x.n, .slice Ab x.b.length cb] 29))
        have HF2 := Lib.hid (HF1.out.alloc (.cells #[.int .i64 x.kind, .int .i64 x.n, .slice Ab x.b.length cb] 29))
        have HK2 := Lib.hid (HK1.out.alloc (.cells #[.int .i64 x.kind, .int .i64 x.n, .slice Ab x.b.length cb] 29))
        have hn1 : ¬ Own.One g w1.heap.size := fun e => by cases e; exact absurd hg1 (Nat.lt_irrefl _)
        have hn2 : ¬ Own.One w1.heap.size g := fun e => by cases e; exact absurd hg1 (Nat.lt_irrefl _)
        have Hn := Lib.hid (And.intro hn1 hn2)
        clear hn1 hn2
        by_cases hs : d.steps = true
        · have HSt := Lib.hid hs
          clear hs
          go_wp2_with fail
          refine (Step_yes HD2.out d.step HSt.out rfl).mono ?_
          rintro e w2 ⟨A', c', rfl, hr2, hd2, hk2, ha2⟩
          have HR2 := Lib.hid hr2
          have HD4 := Lib.hid hd2
          have HK4 := Lib.hid hk2
          have HA2 := Lib.hid ha2
          clear hr2 hd2 hk2 ha2
          go_wp2_with fail
          refine (RStep_r (HF2.out.keep HK4.out Hn.out.1) true HSt.out).mono ?_
          rintro e w3 ⟨rfl, hf3, hk3⟩
          have hrun := run_str (P := Try.prog) (c := c') under27 under5 under9 (HR2.out.keep hk3.out (fun a ha _ e => by have := HA2.out a ha; have := HF2.out.lt; unfold Own.One at e; omega)) 1 rfl
          rw [str_0] at hrun
          have HD3 := Lib.hid (HD4.out.keep hk3.out Hn.out.2)
          have HF3 := hf3
          have HK3 := Lib.hid ((HK2.out.trans HK4.out (fun i hi => .inr (by cases hi; exact hg))).trans hk3.out (fun i hi => .inr (by cases hi; exact hw1)))
          clear hf3 hk3 HR2 HD4 HK4 HD2 HF2 HK2
          generalize d.step = d2 at *
          go_wp2_with fail
          clear hrun
          refine (Boots_keep HD3.out).mono ?_
          rintro e w5 ⟨rfl, hk5⟩
          have HD5 : Hid (IsNd w5 g d2) := Lib.hid (HD3.out.keep hk5 id)
          have HF5 : Hid (IsRf w5 w1.heap.size d2) := Lib.hid (HF3.out.keep hk5 id)
          have HK5 := Lib.hid (HK3.out.trans hk5 (fun i hi => hi.elim))
          clear hk5
          obtain ⟨f0, f1, f2, f3, f4, _, _, _, _, _⟩ := HF5.out.facts
          go_wp2_with fail
          go_quiet ((first | (go_at_call 11; exact quiet_eq (State_is HD5.out)) | (go_at_call 16; exact quiet_eq (ID_is HD5.out))))
          go_wp2
          go_roundg (acts.length - (j + 1))
          case measure => rw [HM.out]; omega
          case rel => exact ⟨j + 1, d2, hlt, rfl, by go_num, HD5.out.drewN _, HF5.out.drewN _, HK5.out.drewN _⟩
        · have HSt : Hid (d.steps = false) := Lib.hid (by simpa using hs)
          clear hs
          go_wp2_with fail
          refine (Step_no HD2.out HSt.out).mono ?_
          rintro e w2 ⟨A', c', rfl, hd2, hk2⟩
          have HD4 := Lib.hid hd2
          have HK4 := Lib.hid hk2
          clear hd2 hk2
          go_wp2_with fail
          refine (RStep_r (HF2.out.keep HK4.out Hn.out.1) false HSt.out).mono ?_
          rintro e w3 ⟨rfl, hf3, hk3⟩
          have HD3 := Lib.hid (HD4.out.keep hk3.out Hn.out.2)
          have HF3 := hf3
          have HK3 := Lib.hid ((HK2.out.trans HK4.out (fun i hi => .inr (by cases hi; exact hg))).trans hk3.out (fun i hi => .inr (by cases hi; exact hw1)))
          clear hf3 hk3 HD4 HK4 HD2 HF2 HK2
          generalize d.step = d2 at *
          go_wp2_with fail
          refine (Boots_keep HD3.out).mono ?_
          rintro e w5 ⟨rfl, hk5⟩
          have HD5 : Hid (IsNd w5 g d2) := Lib.hid (HD3.out.keep hk5 id)
          have HF5 : Hid (IsRf w5 w1.heap.size d2) := Lib.hid (HF3.out.keep hk5 id)
          have HK5 := Lib.hid (HK3.out.trans hk5 (fun i hi => hi.elim))
          clear hk5
          obtain ⟨f0, f1, f2, f3, f4, _, _, _, _, _⟩ := HF5.out.facts
          go_wp2_with fail
          go_quiet ((first | (go_at_call 11; exact quiet_eq (State_is HD5.out)) | (go_at_call 16; exact quiet_eq (ID_is HD5.out))))
          go_wp2
          go_roundg (acts.length - (j + 1))
          case measure => rw [HM.out]; omega
          case rel => exact ⟨j + 1, d2, hlt, rfl, by go_num, HD5.out.drewN _, HF5.out.drewN _, HK5.out.drewN _⟩
      by_cases k2 : x.kind = 2
      · have e0 : (x.kind == 0) = false := by simp [k2]
        have e1 : (x.kind == 1) = false := by simp [k2]
        have e2 : (x.kind == 2) = true := by simp [k2]
        clear k0 k1 k2
        have HD3 := Lib.hid (HD1.out.alloc (.cells #[.int .i64 x.kind, .int .i64 x.n, .slice Ab x.b.length cb] 29))
        have HF3 := Lib.hid (HF1.out.alloc (.cells #[.int .i64 x.kind, .int .i64 x.n, .slice Ab x.b.length cb] 29))
        have HK3 := Lib.hid (HK1.out.alloc (.cells #[.int .i64 x.kind, .int .i64 x.n, .slice Ab x.b.length cb] 29))
        go_wp2_with fail
        obtain ⟨r, hr⟩ : ∃ r : Int, r = if 0 ≤ x.n ∧ x.n ≤ 127 then 0 else 1 := ⟨_, rfl⟩
        have HRR := Lib.hid hr
        clear hr
        have HW1 : Hid (¬ One g w1.heap.size) := fun e => by cases e; exact absurd hg1 (Nat.lt_irrefl _)
        have HNg : Hid (¬ One g wr.heap.size) := fun e => by cases e; exact absurd HD1.out.lt (Nat.lt_irrefl _)
        have HNf : Hid (¬ One w1.heap.size wr.heap.size) := fun e => by have := HF1.out.lt; unfold Own.One at e; omega
        have HC : Hid ((wr.alloc (.cells #[.int .i64 x.kind, .int .i64 x.n, .slice Ab x.b.length cb] 29)).drew.cell? ⟨wr.heap.size, 1, none⟩ = some (.int .i64 x.n)) := Blk.cell (Blk.drew (Blk.new wr _ _)) 1
        have HL : Hid (wr.heap.size < (wr.alloc (.cells #[.int .i64 x.kind, .int .i64 x.n, .slice Ab x.b.length cb] 29)).drew.heap.size) := Blk.lt (Blk.drew (Blk.new wr _ _))
        go_region_held3 (fun w' => w'.cell? ⟨wr.heap.size, 1, none⟩ = some (.int .i64 x.n)) (first | go_keep | exact (hk4.out.cell (p := ⟨wr.heap.size, 1, none⟩) HL.out HNg.out).trans HC.out | exact (hk5.out.cell (p := ⟨wr.heap.size, 1, none⟩) (Nat.lt_of_lt_of_le HL.out hk4.out.size) HNf.out).trans ((hk4.out.cell (p := ⟨wr.heap.size, 1, none⟩) HL.out HNg.out).trans HC.out)) (first | (go_at_call 19; refine (SetID_r (w := (wr.alloc (.cells #[.int .i64 x.kind, .int .i64 x.n, .slice Ab x.b.length cb] 29)).drew) HD3.out.drew x.n r HRR.out).mono ?_; rintro e w4 ⟨rfl, hd4, hk4⟩) | (go_at_call 20; refine (RSetID_r (HF3.out.drew.keep hk4.out HW1.out) x.n r HRR.out).mono ?_; rintro e w5 ⟨rfl, hf5, hk5⟩))
        have HD6 := Lib.hid (hd4.out.keep hk5.out (fun e => by cases e; exact absurd hg1 (Nat.lt_irrefl _)))
        have HK6 := Lib.hid ((HK3.out.drew.trans hk4.out (fun i hi => .inr (by cases hi; exact hg))).trans hk5.out (fun i hi => .inr (by cases hi; exact hw1)))
        clear HD3 HF3 HK3
        obtain ⟨HD3, HF3, HK3⟩ : Hid (IsNd w5 g (d.sets x.n)) ∧ Hid (IsRf w5 w1.heap.size (d.sets x.n)) ∧ Hid (Keep Zero w w5) := ⟨HD6, hf5, HK6⟩
        clear HD6 hf5 HK6 hk4 hk5 hd4 HC HL
        generalize d.sets x.n = d2 at *
        go_wp2_with fail
        refine (Boots_keep HD3.out).mono ?_
        rintro e w5 ⟨rfl, hk5⟩
        have HD5 : Hid (IsNd w5 g d2) := Lib.hid (HD3.out.keep hk5 id)
        have HF5 : Hid (IsRf w5 w1.heap.size d2) := Lib.hid (HF3.out.keep hk5 id)
        have HK5 := Lib.hid (HK3.out.trans hk5 (fun i hi => hi.elim))
        clear hk5
        obtain ⟨f0, f1, f2, f3, f4, _, _, _, _, _⟩ := HF5.out.facts
        go_wp2_with fail
        go_quiet ((first | (go_at_call 11; exact quiet_eq (State_is HD5.out)) | (go_at_call 16; exact quiet_eq (ID_is HD5.out))))
        go_wp2
        go_roundg (acts.length - (j + 1))
        case measure => rw [HM.out]; omega
        case rel => exact ⟨j + 1, d2, hlt, rfl, by go_num, HD5.out.drewN _, HF5.out.drewN _, HK5.out.drewN _⟩
      have e0 : (x.kind == 0) = false := by simp [k0]
      have e1 : (x.kind == 1) = false := by simp [k1]
      have e2 : (x.kind == 2) = false := by simp [k2]
      clear k0 k1 k2
      go_wp2_with fail
      have HD3 := Lib.hid (HD1.out.alloc (.cells #[.int .i64 x.kind, .int .i64 x.n, .slice Ab x.b.length cb] 29))
      have HF3 := Lib.hid (HF1.out.alloc (.cells #[.int .i64 x.kind, .int .i64 x.n, .slice Ab x.b.length cb] 29))
      have HK3 := Lib.hid (HK1.out.alloc (.cells #[.int .i64 x.kind, .int .i64 x.n, .slice Ab x.b.length cb] 29))
      refine (Boots_keep HD3.out).mono ?_
      rintro e w5 ⟨rfl, hk5⟩
      have HD5 : Hid (IsNd w5 g d) := Lib.hid (HD3.out.keep hk5 id)
      have HF5 : Hid (IsRf w5 w1.heap.size d) := Lib.hid (HF3.out.keep hk5 id)
      have HK5 := Lib.hid (HK3.out.trans hk5 (fun i hi => hi.elim))
      clear hk5
      obtain ⟨f0, f1, f2, f3, f4, _, _, _, _, _⟩ := HF5.out.facts
      go_wp2_with fail
      go_quiet ((first | (go_at_call 11; exact quiet_eq (State_is HD5.out)) | (go_at_call 16; exact quiet_eq (ID_is HD5.out))))
      go_wp2
      go_roundg (acts.length - (j + 1))
      case measure => rw [HM.out]; omega
      case rel => exact ⟨j + 1, d, hlt, rfl, by go_num, HD5.out.drewN _, HF5.out.drewN _, HK5.out.drewN _⟩
    · have hl1 : ¬ (j : Int) < (acts.length : Int) := by omega
      go_wp2_with ((with_reducible refine (lives_any _).mono ?_); rintro e w' ⟨rfl, hk⟩)
      go_ret
      exact ⟨rfl, HK1.out.trans hk (fun i hi => hi.elim)⟩
theorem nodes_walk' (A : Option Addr) (c : Nat) (xs : List (Int × Int × List Int × Unit)) (w : World) (h : RowOf (Both (IntIs .i64) (Both (IntIs .i64) (Both (SliceIs (IntIs .u8) 1 1) NoCells))) 3 w A xs) (hb : xs.length * 40 ≤ reachBytes) (nid : Int) (_hn : -9223372036854775808 ≤ nid ∧ nid ≤ 9223372036854775807) :
    Calls Try.prog 6 #[.int .i64 nid, .slice A xs.length c] w fun e w' => e = .returned (.bool true) ∧ Keep Zero w w' := by
  by_cases hid : 0 ≤ nid ∧ nid ≤ 127
  · have hl : (xs.map fun x => (⟨x.1, x.2.1, x.2.2.1⟩ : NAct)).length = xs.length := List.length_map _
    have hwk := nodes_walk A c _ w (actsAt_of h) (by rw [hl]; unfold reachBytes at hb; omega) nid hid.1 hid.2
    rw [hl] at hwk
    exact hwk
  · exact nodes_bad nid (by omega) _ w
end Go.Proofs.Ytghnegidhfmphaa.Nmt

