/- EmcyTells: the walk of the law's function. -/
import Derived.Test.YtagklcmkdjgblaaEmcyV
import Derived.Deep.RegionHeld3
import Derived.Deep.CutBlock
namespace Go.Proofs.Ytagklcmkdjgblaa.Emcy
open Go.RowKit Go.Proofs.Ytagklcmkdjgblaa.Own
set_option maxRecDepth 100000 in
set_option maxHeartbeats 8000000 in
theorem tells_walk (hm q : Int) (m0 : 1 ≤ hm) (m1 : hm ≤ 254) (q0 : 0 ≤ q) (q1 : q ≤ 4294967296) (A : Option Addr) (ca : Nat) (l : List TAct) (w : World) (hA : TActsAt w A l) (hl : l.length ≤ 9000000000000) :
    Calls Try.prog 6 #[.int .i64 hm, .int .u64 q, .slice A l.length ca] w fun e w' => e = .returned (.bool true) ∧ Keep Zero w w' := by
  have HA := Lib.hid hA
  obtain ⟨n, hn⟩ : ∃ n, n = l.length := ⟨_, rfl⟩
  have HN := Lib.hid hn
  rw [← hn]
  rw [← hn] at hl
  have b1 : decide (hm < 1) = false := by simp; omega
  have b2 : decide (254 < hm) = false := by simp; omega
  have b3 : decide (4294967296 < q) = false := by simp; omega
  clear hA hn
  go_enter Try.func6, Try.ntmps6
  go_wp2_with fail
  refine (New_x w (Keep.refl _ _) hm q m0 m1 q1).mono ?_
  rintro e w1 ⟨g, rfl, hp⟩
  have HL1 := Lib.hid hp.out.1
  clear hp
  go_wp2_with fail
  have HT1 : Hid (TI w (w1.alloc (.cells #[.int .i64 hm, .int .u64 q, .int .u64 0, .slice none 0 0, .slice none 0 0, .slice none 0 0] 50)) g w1.heap.size hm q 0 ⟨hm, q, 0, [], [], []⟩) := Lib.hid ⟨_, LivX.other HL1.out ((Keep.refl Zero w1).alloc _) (fun i hi => hi.elim), ⟨none, 0, none, 0, none, 0, Blk.new _ _ _, Row.nil _ _, Nat.le_refl _, fun _ => rfl, Row.nil _ _, Nat.le_refl _, fun _ => rfl, Row.nil _ _, Nat.le_refl _, fun _ => rfl, .inr ⟨Nat.le_refl _, by simp⟩, fun h => absurd rfl h, fun h => absurd rfl h, fun h => absurd rfl h, Nat.zero_le _, Nat.zero_le _, Nat.zero_le _⟩, (fun k hk => hk.elim (fun h => h.elim) (fun h => Nat.le_trans HL1.out.old.size h.1)), Ok.new hm q m0 m1 q0 q1⟩
  clear HL1
  go_loopg [10] n (fun k s10 wr => ∃ (j : Nat) (t : Tl), j ≤ n ∧ k = n - j ∧ s10 = .int .i64 j ∧ TI w wr g w1.heap.size hm q j t)
  case atStart => exact ⟨0, _, Nat.zero_le _, rfl, rfl, HT1.out⟩
  case round =>
    obtain ⟨j, t, hj, hk, rfl, hT⟩ := hrel
    have HT := Lib.hid hT
    have HM := Lib.hid hk
    clear HT1 hT hk
    by_cases hlt : j < n
    · have h1 : (j : Int) < (n : Int) := by omega
      have h0 : (0 : Int) ≤ (j : Int) := by omega
      obtain ⟨x, hx⟩ : ∃ x, l[j]? = some x := ⟨l[j]'(by rw [← HN.out]; exact hlt), List.getElem?_eq_getElem _⟩
      obtain ⟨b, o, rfl, hb, hxw, hc⟩ := HA.out j x hx
      have HC := Lib.hid hc
      have HX := Lib.hid hxw
      have hb2 : b < wr.heap.size := Nat.lt_of_lt_of_le hb HT.out.old.size
      have a0 : wr.cell? ⟨b, o + j * 8, none⟩ = some (.int .i64 x.kind) := ((HT.out.old).cell (p := ⟨b, o + j * 8, none⟩) hb id).trans HC.out.1
      have a1 : wr.cell? ⟨b, o + j * 8 + 1, none⟩ = some (.int .u16 x.x.code) := ((HT.out.old).cell (p := ⟨b, o + j * 8 + 1, none⟩) hb id).trans HC.out.2.1
      have a2 : wr.cell? ⟨b, o + j * 8 + 2, none⟩ = some (.int .u8 x.x.reg) := ((HT.out.old).cell (p := ⟨b, o + j * 8 + 2, none⟩) hb id).trans HC.out.2.2.1
      have a3 : wr.cell? ⟨b, o + j * 8 + 3, none⟩ = some (.int .u8 x.x.x0) := ((HT.out.old).cell (p := ⟨b, o + j * 8 + 3, none⟩) hb id).trans HC.out.2.2.2.1
      have a4 : wr.cell? ⟨b, o + j * 8 + 4, none⟩ = some (.int .u8 x.x.x1) := ((HT.out.old).cell (p := ⟨b, o + j * 8 + 4, none⟩) hb id).trans HC.out.2.2.2.2.1
      have a5 : wr.cell? ⟨b, o + j * 8 + 5, none⟩ = some (.int .u8 x.x.x2) := ((HT.out.old).cell (p := ⟨b, o + j * 8 + 5, none⟩) hb id).trans HC.out.2.2.2.2.2.1
      have a6 : wr.cell? ⟨b, o + j * 8 + 6, none⟩ = some (.int .u8 x.x.x3) := ((HT.out.old).cell (p := ⟨b, o + j * 8 + 6, none⟩) hb id).trans HC.out.2.2.2.2.2.2.1
      have a7 : wr.cell? ⟨b, o + j * 8 + 7, none⟩ = some (.int .u8 x.x.x4) := ((HT.out.old).cell (p := ⟨b, o + j * 8 + 7, none⟩) hb id).trans HC.out.2.2.2.2.2.2.2
      clear hx hc hxw
      have HSf : Hid (∀ w', Keep Zero w w' → w'.cell? ⟨b, o + j * 8 + 1, none⟩ = some (.int .u16 x.x.code) ∧ w'.cell? ⟨b, o + j * 8 + 2, none⟩ = some (.int .u8 x.x.reg) ∧ w'.cell? ⟨b, o + j * 8 + 3, none⟩ = some (.int .u8 x.x.x0) ∧ w'.cell? ⟨b, o + j * 8 + 4, none⟩ = some (.int .u8 x.x.x1) ∧ w'.cell? ⟨b, o + j * 8 + 5, none⟩ = some (.int .u8 x.x.x2) ∧ w'.cell? ⟨b, o + j * 8 + 6, none⟩ = some (.int .u8 x.x.x3) ∧ w'.cell? ⟨b, o + j * 8 + 7, none⟩ = some (.int .u8 x.x.x4)) := Lib.hid (fun wk k => by
        have a0 : wk.cell? ⟨b, o + j * 8, none⟩ = some (.int .i64 x.kind) := ((k).cell (p := ⟨b, o + j * 8, none⟩) hb id).trans HC.out.1
        have a1 : wk.cell? ⟨b, o + j * 8 + 1, none⟩ = some (.int .u16 x.x.code) := ((k).cell (p := ⟨b, o + j * 8 + 1, none⟩) hb id).trans HC.out.2.1
        have a2 : wk.cell? ⟨b, o + j * 8 + 2, none⟩ = some (.int .u8 x.x.reg) := ((k).cell (p := ⟨b, o + j * 8 + 2, none⟩) hb id).trans HC.out.2.2.1
        have a3 : wk.cell? ⟨b, o + j * 8 + 3, none⟩ = some (.int .u8 x.x.x0) := ((k).cell (p := ⟨b, o + j * 8 + 3, none⟩) hb id).trans HC.out.2.2.2.1
        have a4 : wk.cell? ⟨b, o + j * 8 + 4, none⟩ = some (.int .u8 x.x.x1) := ((k).cell (p := ⟨b, o + j * 8 + 4, none⟩) hb id).trans HC.out.2.2.2.2.1
        have a5 : wk.cell? ⟨b, o + j * 8 + 5, none⟩ = some (.int .u8 x.x.x2) := ((k).cell (p := ⟨b, o + j * 8 + 5, none⟩) hb id).trans HC.out.2.2.2.2.2.1
        have a6 : wk.cell? ⟨b, o + j * 8 + 6, none⟩ = some (.int .u8 x.x.x3) := ((k).cell (p := ⟨b, o + j * 8 + 6, none⟩) hb id).trans HC.out.2.2.2.2.2.2.1
        have a7 : wk.cell? ⟨b, o + j * 8 + 7, none⟩ = some (.int .u8 x.x.x4) := ((k).cell (p := ⟨b, o + j * 8 + 7, none⟩) hb id).trans HC.out.2.2.2.2.2.2.2
        exact ⟨a1, a2, a3, a4, a5, a6, a7⟩)
      go_upto_block 2 with fail
      go_cut [11] (fun s11 wx => ∃ t' : Tl, s11 = .bool true ∧ TI w wx g w1.heap.size hm q (j + 1) t')
      case first =>
        have hq0 := HT.out.ok.wfs
        have HQ0 := Lib.hid hq0
        clear hq0
        by_cases k0 : x.kind = 0
        · have kb0 : (x.kind == 0) = true := by simp [k0]
          obtain ⟨r, hr⟩ : ∃ r, r = (t.raise x.x).1 := ⟨_, rfl⟩
          have HR := Lib.hid hr
          have hrr : (r == r) = true := by simp
          clear k0 hr
          go_wp2_with fail
          go_region_held3 (fun w' => w'.cell? ⟨b, o + j * 8 + 1, none⟩ = some (.int .u16 x.x.code) ∧ w'.cell? ⟨b, o + j * 8 + 2, none⟩ = some (.int .u8 x.x.reg) ∧ w'.cell? ⟨b, o + j * 8 + 3, none⟩ = some (.int .u8 x.x.x0) ∧ w'.cell? ⟨b, o + j * 8 + 4, none⟩ = some (.int .u8 x.x.x1) ∧ w'.cell? ⟨b, o + j * 8 + 5, none⟩ = some (.int .u8 x.x.x2) ∧ w'.cell? ⟨b, o + j * 8 + 6, none⟩ = some (.int .u8 x.x.x3) ∧ w'.cell? ⟨b, o + j * 8 + 7, none⟩ = some (.int .u8 x.x.x4)) (first | (refine HSf.out _ ?_; (first | exact HT3.out.old | exact HB2.out.old | exact HT.out.old.drew); done) | (go_keep; done)) (first | (go_at_call 8; refine (Raise_t (HT.out.keep (Keep.drew (Keep.refl _ _))) (by omega) x.x HX.out).mono ?_; rintro e w2 ⟨rfl, hp⟩; have HB2 := Lib.hid hp.out; clear hp; rw [← HR.out]) | (go_at_call 18; refine (DRaise_t HT.out.ok (by omega) x.x HX.out HB2.out).mono ?_; rintro e w3 ⟨rfl, hp⟩; have HT3 := Lib.hid hp.out; clear hp; rw [← HR.out]))
          go_wp2_with fail
          go_meet
          exact ⟨_, rfl, HT3.out⟩
        have kb0 : (x.kind == 0) = false := by simp [k0]
        have HXw := HX.out
        unfold Tr.wf at HXw
        have c0 := HXw.1
        have c1 := HXw.2.1
        clear k0 HXw
        by_cases k1 : x.kind = 1
        · have kb1 : (x.kind == 1) = true := by simp [k1]
          obtain ⟨r, hr⟩ : ∃ r, r = (t.clear x.x.code).1 := ⟨_, rfl⟩
          have HR := Lib.hid hr
          have hrr : (r == r) = true := by simp
          clear k1 hr
          go_wp2_with fail
          go_region_held3 (fun w' => w'.cell? ⟨b, o + j * 8 + 1, none⟩ = some (.int .u16 x.x.code) ∧ w'.cell? ⟨b, o + j * 8 + 2, none⟩ = some (.int .u8 x.x.reg) ∧ w'.cell? ⟨b, o + j * 8 + 3, none⟩ = some (.int .u8 x.x.x0) ∧ w'.cell? ⟨b, o + j * 8 + 4, none⟩ = some (.int .u8 x.x.x1) ∧ w'.cell? ⟨b, o + j * 8 + 5, none⟩ = some (.int .u8 x.x.x2) ∧ w'.cell? ⟨b, o + j * 8 + 6, none⟩ = some (.int .u8 x.x.x3) ∧ w'.cell? ⟨b, o + j * 8 + 7, none⟩ = some (.int .u8 x.x.x4)) (first | (refine HSf.out _ ?_; (first | exact HT3.out.old | exact HB2.out.old | exact HT.out.old.drew); done) | (go_keep; done)) (first | (go_at_call 9; refine (Clear_t (HT.out.keep (Keep.drew (Keep.refl _ _))) (by omega) x.x.code c0 c1).mono ?_; rintro e w2 ⟨rfl, hp⟩; have HB2 := Lib.hid hp.out; clear hp; rw [← HR.out]) | (go_at_call 19; refine (DClear_t HT.out.ok (by omega) x.x.code HB2.out).mono ?_; rintro e w3 ⟨rfl, hp⟩; have HT3 := Lib.hid hp.out; clear hp; rw [← HR.out]))
          go_wp2_with fail
          go_meet
          exact ⟨_, rfl, HT3.out⟩
        have kb1 : (x.kind == 1) = false := by simp [k1]
        clear k1 a1 a2 a3 a4 a5 a6 a7
        by_cases k2 : x.kind = 2
        · have kb2 : (x.kind == 2) = true := by simp [k2]
          obtain ⟨r, hr⟩ : ∃ r, r = decide (t.tick.quiet = 0 ∧ 0 < t.fr.length) := ⟨_, rfl⟩
          have HR := Lib.hid hr
          have hrr : (r == r) = true := by simp
          clear k2 hr
          go_wp2_with fail
          refine (Tick_t HT.out).mono ?_
          rintro e w2 ⟨rfl, hp⟩
          have HB2 := Lib.hid hp.out
          clear hp
          rw [← HR.out]
          go_wp2_with fail
          refine (DTick_t HT.out.ok HB2.out).mono ?_
          rintro e w3 ⟨rfl, hp⟩
          have HT3 := Lib.hid hp.out
          clear hp
          rw [← HR.out]
          go_wp2_with fail
          go_meet
          exact ⟨_, rfl, HT3.out⟩
        have kb2 : (x.kind == 2) = false := by simp [k2]
        clear k2
        by_cases k3 : x.kind = 3
        · have kb3 : (x.kind == 3) = true := by simp [k3]
          clear k3
          go_wp2_with fail
          refine (Frame_t HT.out).mono ?_
          rintro e w2 ⟨rfl, hp⟩
          have HB2 := Lib.hid hp.out
          clear hp
          obtain ⟨f, hf⟩ : ∃ f, f = t.frame.1 := ⟨_, rfl⟩
          obtain ⟨r, hr⟩ : ∃ r, r = t.frame.2.1 := ⟨_, rfl⟩
          have HF := Lib.hid hf
          have HR := Lib.hid hr
          rw [← hf, ← hr]
          have hrr : (r == r) = true := by simp
          have he5 := eq35 f.b0 f.b1 f.b2 f.b3 f.b4 f.b5 f.b6 f.b7
          clear hf hr
          unfold Fr.v
          go_wp2_with fail
          refine (DFrame_t HT.out.ok (HB2.out.keep ((Keep.refl Zero w2).alloc (.cells f.cells.toArray 35)))).mono ?_
          rintro e w3 ⟨rfl, hp⟩
          have HT3 := Lib.hid hp.out.1
          have hdw : ¬ w2.heap.size = w1.heap.size := by
            have := HB2.out.lt
            omega
          have HBf : Hid (Blk w3 w2.heap.size f.cells.toArray 35) := Lib.hid (Blk.keep (Blk.new w2 f.cells.toArray 35) hp.out.2 (fun e => hdw e))
          clear hp
          rw [← HF.out, ← HR.out]
          have z0 : w3.cell? ⟨w2.heap.size, 0, none⟩ = some (.int .u8 f.b0) := HBf.out.cell 0
          have z1 : w3.cell? ⟨w2.heap.size, 1, none⟩ = some (.int .u8 f.b1) := HBf.out.cell 1
          have z2 : w3.cell? ⟨w2.heap.size, 2, none⟩ = some (.int .u8 f.b2) := HBf.out.cell 2
          have z3 : w3.cell? ⟨w2.heap.size, 3, none⟩ = some (.int .u8 f.b3) := HBf.out.cell 3
          have z4 : w3.cell? ⟨w2.heap.size, 4, none⟩ = some (.int .u8 f.b4) := HBf.out.cell 4
          have z5 : w3.cell? ⟨w2.heap.size, 5, none⟩ = some (.int .u8 f.b5) := HBf.out.cell 5
          have z6 : w3.cell? ⟨w2.heap.size, 6, none⟩ = some (.int .u8 f.b6) := HBf.out.cell 6
          have z7 : w3.cell? ⟨w2.heap.size, 7, none⟩ = some (.int .u8 f.b7) := HBf.out.cell 7
          have z9 : w2.heap.size < w3.heap.size := HBf.out.lt
          unfold Fr.v
          go_wp2_with fail
          go_meet
          exact ⟨_, rfl, HT3.out.keep ((Keep.refl Zero w3).alloc _)⟩
        have kb3 : (x.kind == 3) = false := by simp [k3]
        clear k3
        by_cases k4 : x.kind = 4
        · have kb4 : (x.kind == 4) = true := by simp [k4]
          clear k4
          go_wp2_with fail
          refine (Forget_t HT.out).mono ?_
          rintro e w2 ⟨rfl, hp⟩
          have HB2 := Lib.hid hp.out
          clear hp
          obtain ⟨v4, y4, f4⟩ := HB2.out.blk
          go_wp2_with fail
          go_meet
          exact ⟨_, rfl, HB2.out.forget HT.out.ok⟩
        have kb4 : (x.kind == 4) = false := by simp [k4]
        clear k4
        go_wp2_with fail
        go_meet
        exact ⟨_, rfl, HT.out.more (Nat.le_succ _)⟩
      case rest =>
        obtain ⟨t2, rfl, hT⟩ := hcut
        obtain ⟨w2, hw2⟩ : ∃ w2, w2 = wc := ⟨_, rfl⟩
        subst hw2
        have HT2 := Lib.hid hT
        obtain ⟨D, hLv, hDD⟩ := hT.both
        have HLv := Lib.hid hLv
        have HDD := Lib.hid hDD
        have HO2 := Lib.hid hT.ok
        obtain ⟨An, cn, Ah, ch, Af, cf, hdv⟩ := hDD
        have HDV := Lib.hid hdv
        obtain ⟨mh, hmh⟩ : ∃ m, m = t2.hist.length := ⟨_, rfl⟩
        obtain ⟨mn, hmn⟩ : ∃ m, m = t2.now.length := ⟨_, rfl⟩
        obtain ⟨r, hr⟩ : ∃ r, r = regF t2.now := ⟨_, rfl⟩
        have HMh := Lib.hid hmh
        have HMn := Lib.hid hmn
        have HR := Lib.hid hr
        have hb : ∃ b : Bool, (r == 0) = b ∧ ((mn : Int) == 0) = b := by
          have h := regF_zero (l := t2.now) hT.ok.wfs
          rw [← hr] at h
          by_cases hn : t2.now = []
          · refine ⟨true, by simp [h.2 hn], ?_⟩
            rw [hmn, hn]
            rfl
          · refine ⟨false, ?_, ?_⟩
            · have h2 : ¬ r = 0 := fun e => hn (h.1 e)
              simp [h2]
            · have h2 : mn ≠ 0 := fun e => hn (List.eq_nil_of_length_eq_zero (by rw [← hmn]; exact e))
              simp [h2]
        obtain ⟨bb, hb1, hb2⟩ := hb
        have hrr : (r != r) = false := by simp
        have hbn : (bb != bb) = false := by simp
        have g3 : w2.cell? ⟨w1.heap.size, 3, none⟩ = some (.slice An mn cn) := by rw [hmn]; exact hdv.blk.cell 3
        have g4 : w2.cell? ⟨w1.heap.size, 4, none⟩ = some (.slice Ah mh ch) := by rw [hmh]; exact hdv.blk.cell 4
        have gl : w1.heap.size < w2.heap.size := hdv.blk.lt
        have HSg : Hid (∀ wk, Keep Zero w2 wk → wk.cell? ⟨w1.heap.size, 3, none⟩ = some (.slice An mn cn) ∧ wk.cell? ⟨w1.heap.size, 4, none⟩ = some (.slice Ah mh ch)) := Lib.hid (fun wk k => ⟨(k.cell (p := ⟨w1.heap.size, 3, none⟩) gl id).trans g3, (k.cell (p := ⟨w1.heap.size, 4, none⟩) gl id).trans g4⟩)
        clear hT hLv hdv hmh hmn hr HT a0 a1 a2 a3 a4 a5 a6 a7 HSf
        go_wp2_with fail
        go_region_held3 (fun w' => w'.cell? ⟨w1.heap.size, 3, none⟩ = some (.slice An mn cn) ∧ w'.cell? ⟨w1.heap.size, 4, none⟩ = some (.slice Ah mh ch)) (first | (refine HSg.out _ ?_; (first | exact HKn.out | exact (Keep.refl Zero w2).drew); done) | (go_keep; done)) (first | (go_at_call 15; refine (Register_l (HLv.out.keep (by first | exact HKn.out | exact (Keep.refl Zero w2).drew)) HO2.out (by omega)).mono ?_; rintro e wn ⟨rfl, hp⟩; have HKn : Hid (Keep Zero w2 wn) := Lib.hid (Keep.trans (by first | exact HKn.out | exact (Keep.refl Zero w2).drew) hp.out (fun i hi => hi.elim)); clear hp; rw [← HR.out]) | (go_at_call 23; refine (DRegister_any (t := t2) (D := D) (IsD.old HDD.out (by first | exact HKn.out | exact (Keep.refl Zero w2).drew)) HO2.out.wfs (by have := HO2.out.len; omega)).mono ?_; rintro e wn ⟨rfl, rfl⟩; rw [← HR.out]) | (go_at_call 17; refine (History_l (HLv.out.keep (by first | exact HKn.out | exact (Keep.refl Zero w2).drew)) HO2.out).mono ?_; rintro e wn ⟨A7, c7, rfl, hp⟩; have HKn : Hid (Keep Zero w2 wn) := Lib.hid (Keep.trans (by first | exact HKn.out | exact (Keep.refl Zero w2).drew) hp.out.2.1 (fun i hi => hi.elim)); have HTh : Hid (Trs wn A7 t2.hist) := Lib.hid hp.out.1; clear hp; rw [← HMh.out]) | (go_at_call 14; refine (Now_l (HLv.out.keep (by first | exact HKn.out | exact (Keep.refl Zero w2).drew)) HO2.out (by omega)).mono ?_; rintro e wn ⟨A8, c8, rfl, hp⟩; have HKn : Hid (Keep Zero w2 wn) := Lib.hid (Keep.trans (by first | exact HKn.out | exact (Keep.refl Zero w2).drew) hp.out.2.1 (fun i hi => hi.elim)); have HTn : Hid (Trs wn A8 t2.now) := Lib.hid hp.out.1; clear hp; rw [← HMn.out]) | (go_at_call 16; refine (same_true (l := t2.now) HTn.out (Row.keep HDV.out.now (by first | exact HKn.out | exact (Keep.refl Zero w2).drew) (fun _ _ _ => id)) HMn.out (by have := HO2.out.len; have := HMn.out; omega)).mono ?_; rintro e wn ⟨rfl, hp⟩; have HKn : Hid (Keep Zero w2 wn) := Lib.hid (Keep.trans (by first | exact HKn.out | exact (Keep.refl Zero w2).drew) hp (fun i hi => hi.elim)); clear hp) | (go_at_call 16; refine (same_true (l := t2.hist) HTh.out (Row.keep HDV.out.hist (by first | exact HKn.out | exact (Keep.refl Zero w2).drew) (fun _ _ _ => id)) HMh.out (by have := HO2.out.hist; have := HO2.out.most; have := HMh.out; omega)).mono ?_; rintro e wn ⟨rfl, hp⟩; have HKn : Hid (Keep Zero w2 wn) := Lib.hid (Keep.trans (by first | exact HKn.out | exact (Keep.refl Zero w2).drew) hp (fun i hi => hi.elim)); clear hp))
        all_goals
          go_wp2_with fail
          go_roundg (n - (j + 1))
          case measure => rw [HM.out]; omega
          case rel => exact ⟨j + 1, t2, by omega, rfl, by go_num, HT2.out.keep HKn.out⟩
    · have h1 : ¬ (j : Int) < (n : Int) := by omega
      go_wp2_with ((with_reducible refine (lives_any _).mono ?_); rintro e w' ⟨rfl, hk⟩)
      go_ret
      rename_i hk
      exact ⟨rfl, HT.out.old.trans hk.out (fun i hi => hi.elim)⟩
end Go.Proofs.Ytagklcmkdjgblaa.Emcy
