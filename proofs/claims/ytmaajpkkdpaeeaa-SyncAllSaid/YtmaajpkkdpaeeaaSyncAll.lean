/- SyncAll's walk. -/
import Derived.Test.YtmaajpkkdpaeeaaSyncF
namespace Go.Proofs.Ytmaajpkkdpaeeaa.Sync
open Go.RowKit Go.Proofs.Ytmaajpkkdpaeeaa.Own
/-- The consumer ahead of SYNC i: of those behind the first F + 1, M are lost. -/
def Al (E F M i : Int) : Co :=
  ⟨E, 0, if i = 0 then 0 else if i ≤ F + 1 then i % E + 1 else if i ≤ F + M + 1 then (F + 1) % E + 1 else i % E + 1,
    if i ≤ F + 1 then i else if i ≤ F + M + 1 then F + 1 else i - M, if 0 < M ∧ F + M + 1 < i then 1 else 0, 0⟩
theorem al_lost {E F M i : Int} (h0 : 0 ≤ F) (h1 : F < i) (h2 : i ≤ F + M) : Al E F M (i + 1) = Al E F M i := by
  unfold Al
  have e1 : ¬ (i + 1 = 0) := by omega
  have e2 : ¬ (i + 1 ≤ F + 1) := by omega
  have e3 : i + 1 ≤ F + M + 1 := by omega
  have e4 : ¬ i = 0 := by omega
  have e5 : ¬ (0 < M ∧ F + M + 1 < i + 1) := by omega
  have e6 : ¬ (0 < M ∧ F + M + 1 < i) := by omega
  rw [if_neg e1, if_neg e2, if_pos e3, if_neg e2, if_pos e3, if_neg e5, if_neg e4, if_neg e6]
  by_cases h : i ≤ F + 1
  · obtain rfl : i = F + 1 := by omega
    simp
  · rw [if_neg h, if_neg h, if_pos (by omega), if_pos (by omega)]
theorem mod_one {E i : Int} : (i % E + 1) % E + 1 = (i + 1) % E + 1 := by simp [Int.emod_add_emod]
theorem mod_ne {E M a : Int} (h0 : 0 < M) (h1 : M < E) : (a + M) % E ≠ a % E := by
  intro h
  have h2 : (a + M - a) % E = 0 := Int.emod_eq_emod_iff_emod_sub_eq_zero.1 h
  rw [show a + M - a = M by omega, Int.emod_eq_of_lt (by omega) h1] at h2
  omega
theorem al_next {E F M i : Int} (_F0 : 0 ≤ F) (M0 : 0 ≤ M) (i0 : 0 ≤ i) (hi : i ≤ F ∨ F + M < i) (wr : Int) (hw : wr = if 0 < M ∧ F + M + 1 < i + 1 then 1 else 0) :
    ({ Al E F M i with next := (i + 1) % E + 1, cycle := (Al E F M i).cycle + 1, wrong := wr, since := 0 } : Co) = Al E F M (i + 1) := by
  simp only [Al, Co.mk.injEq, true_and, and_true]
  refine ⟨?_, ?_, hw⟩
  · split
    · omega
    · split
      · rfl
      · split
        · omega
        · rfl
  · split <;> split <;> (try split) <;> (try split) <;> omega
def AlPost (w : World) (g : Nat) (E F M i : Int) (r : Int) (e : Ending) (w' : World) : Prop := e = .returned (.int .i64 r) ∧ IsCo 68 w' g (Al E F M (i + 1)) ∧ Keep (Own.One g) w w'
theorem Take_al {w : World} {g : Nat} {E F M i : Int} (h : IsCo 68 w g (Al E F M i)) (hE : 2 ≤ E) (hE2 : E ≤ 240) (F0 : 0 ≤ F) (F1 : F ≤ 255) (M0 : 0 ≤ M) (M1 : M < E) (i0 : 0 ≤ i) (i1 : i ≤ 255) (hi : i ≤ F ∨ F + M < i) (r : Int) (hr : r = if 0 < M ∧ i = F + M + 1 then 6 else 0) :
    Calls Try.prog 13 #[.pointer (some ⟨g, 0, none⟩), .int .i64 (i % E + 1)] w (AlPost w g E F M i r) := by
  have m0 := Int.emod_nonneg i (b := E) (by omega)
  have m1 := Int.emod_lt_of_pos i (b := E) (by omega)
  have hw : 0 ≤ (Al E F M i).wrong ∧ (Al E F M i).wrong ≤ 1 := by unfold Al; simp only; split <;> omega
  have hcy : 0 ≤ (Al E F M i).cycle ∧ (Al E F M i).cycle ≤ 600 := by unfold Al; simp only; split <;> (try split) <;> omega
  refine (Take_yes h (.inr ⟨hE, hE2⟩) hcy.1 (by omega) hw.1 (by omega) (i % E + 1) (by unfold Fits Al; simp only; rw [if_neg (by omega)]; omega)).mono ?_
  rintro e w' ⟨⟨q, he, hq⟩, h1, h2⟩
  have hq := hq.out
  have ea : after (i % E + 1) (Al E F M i).ov = (i + 1) % E + 1 := by
    unfold after Al
    simp only
    rw [if_neg (by omega)]
    exact mod_one
  rw [ea] at h1
  by_cases hbad : 0 < M ∧ i = F + M + 1
  · have hc : ¬ ((Al E F M i).cycle = 0 ∨ i % E + 1 = (Al E F M i).next) := by
      obtain ⟨hM, rfl⟩ := hbad
      have e4 : ¬ (F + M + 1 = 0) := by omega
      have e2 : ¬ (F + M + 1 ≤ F + 1) := by omega
      have hn : (Al E F M (F + M + 1)).next = (F + 1) % E + 1 := by
        simp only [Al]
        rw [if_neg e4, if_neg e2, if_pos (Int.le_refl _)]
      have hc2 : (Al E F M (F + M + 1)).cycle = F + 1 := by
        simp only [Al]
        rw [if_neg e2, if_pos (Int.le_refl _)]
      rw [hn, hc2]
      rintro (k | k)
      · omega
      · have := mod_ne (a := F + 1) (E := E) hM M1
        rw [show F + 1 + M = F + M + 1 by omega] at this
        omega
    rw [if_neg hc] at hq h1
    refine ⟨by rw [he, hq, hr, if_pos hbad], ?_, h2⟩
    rw [al_next F0 M0 i0 hi _ (by
      rw [if_pos (by omega)]
      simp only [Al]
      rw [if_neg (by omega)]
      rfl)] at h1
    exact h1
  · have hc : (Al E F M i).cycle = 0 ∨ i % E + 1 = (Al E F M i).next := by
      by_cases z : i = 0
      · left
        simp only [Al]
        rw [if_pos (by omega)]
        exact z
      · right
        simp only [Al]
        rw [if_neg z]
        by_cases z2 : i ≤ F + 1
        · rw [if_pos z2]
        · rw [if_neg z2]
          by_cases z3 : i ≤ F + M + 1
          · omega
          · rw [if_neg z3]
    rw [if_pos hc] at hq h1
    refine ⟨by rw [he, hq, hr, if_neg hbad], ?_, h2⟩
    rw [al_next F0 M0 i0 hi _ (by
      simp only [Al]
      split <;> split <;> omega)] at h1
    exact h1
def T1Post (w : World) (g : Nat) (P E i : Int) (e : Ending) (w' : World) : Prop := ∃ b o c, e = .returned (.slice (some ⟨b, o, none⟩) 1 c) ∧ w'.cell? ⟨b, o, none⟩ = some (.int .i64 (i % E + 1)) ∧ IsPr w' g ⟨P, E, true, P, (i + 1) % E + 1⟩ ∧ Keep (Own.One g) w w'
theorem Tick_1 {w : World} {g : Nat} {P E i : Int} (h : IsPr w g ⟨P, E, true, P, i % E + 1⟩) (hP : 1 ≤ P) (hP2 : P ≤ 256) (hE : 2 ≤ E) (hE2 : E ≤ 240) :
    Calls Try.prog 10 #[.pointer (some ⟨g, 0, none⟩), .int .u64 P] w (T1Post w g P E i) := by
  have m0 := Int.emod_nonneg i (b := E) (by omega)
  have m1 := Int.emod_lt_of_pos i (b := E) (by omega)
  refine (Tick_on h rfl ⟨hP, by simp only; omega, .inr ⟨hE, hE2⟩, by simp only; omega, Int.le_refl _, by simp only; omega, by simp only; omega, fun _ => hP⟩ P (by omega) P (by omega)).mono ?_
  rintro e w' ⟨v, rfl, ⟨A, c, rfl, hr, hc, _⟩, hd, hk⟩
  have et : tt P.toNat E P.toNat P.toNat (i % E + 1) = ([i % E + 1], P.toNat, after (i % E + 1) E) := by
    rw [tt_more (by omega) (by omega), Nat.sub_self]
    rfl
  simp only [et] at hr hd ⊢
  obtain ⟨b, o, rfl, _, hcell⟩ := hr 0 _ rfl
  refine ⟨b, o, c, rfl, hcell, ?_, hk⟩
  refine Blk.cast hd ?_
  have : after (i % E + 1) E = (i + 1) % E + 1 := by
    unfold after
    rw [if_neg (by omega)]
    exact mod_one
  rw [this, Int.toNat_of_nonneg (by omega : 0 ≤ P)]
set_option maxRecDepth 100000 in
set_option maxHeartbeats 8000000 in
theorem all_walk (pe ov n F L : Int) (p0 : 0 ≤ pe) (p1 : pe ≤ 255) (o0 : 0 ≤ ov) (o1 : ov ≤ 255) (n0 : 0 ≤ n) (n1 : n ≤ 255) (F0 : 0 ≤ F) (F1 : F ≤ 255) (L0 : 0 ≤ L) (L1 : L ≤ 255) (w : World) :
    Calls Try.prog 4 #[.agg #[.int .u8 pe, .int .u8 ov], .agg #[.int .u8 n, .int .u8 F, .int .u8 L]] w fun e w' => e = .returned (.bool true) ∧ Keep Zero w w' := by
  obtain ⟨P, hP⟩ : ∃ P, P = 1 + pe := ⟨_, rfl⟩
  obtain ⟨E, hE⟩ : ∃ E, E = 2 + ov % 239 := ⟨_, rfl⟩
  obtain ⟨M, hM⟩ : ∃ M, M = L % (E - 1) := ⟨_, rfl⟩
  have P1 : 1 ≤ P := by omega
  have P2 : P ≤ 256 := by omega
  have E1 : 2 ≤ E := by omega
  have E2 : E ≤ 240 := by omega
  have M0 : 0 ≤ M := hM ▸ Int.emod_nonneg L (b := E - 1) (by omega)
  have M1 : M < E - 1 := hM ▸ Int.emod_lt_of_pos L (b := E - 1) (by omega)
  have HP := Lib.hid hP
  have HE := Lib.hid hE
  have HM := Lib.hid hM
  clear hP hE hM
  go_enter Try.func4, Try.ntmps4
  go_wp2_with fail
  go_quiet (fail)
  go_wp2_with fail
  rw [← HP.out, ← HE.out]
  refine (NewP_ok P E P1 (by omega) (.inr ⟨E1, E2⟩) _).mono ?_
  rintro e w1 ⟨g, rfl, hd, hg, hk⟩
  have HD1 := Lib.hid hd
  have HK1 : Hid (Keep Zero w w1) := Lib.hid (Keep.trans (((Keep.refl Zero w).alloc _).alloc _ |>.drewN _) hk (fun i hi => hi.elim))
  have HG : Hid (w.heap.size ≤ g) := Lib.hid (by simp at hg; omega)
  clear hd hk hg
  go_wp2_with fail
  refine (NewC_ok E 0 (.inr ⟨E1, E2⟩) (by omega) _).mono ?_
  rintro e w2 ⟨f, rfl, hc, hf, hk⟩
  have HC2 := Lib.hid hc
  have HD2 := Lib.hid (HD1.out.keep hk id)
  have HK2 := Lib.hid (HK1.out.trans hk (fun i hi => hi.elim))
  have HF : Hid (g < f) := Lib.hid (Nat.lt_of_lt_of_le HD1.out.lt hf)
  clear hc hk hf HD1 HK1
  go_wp2_with fail
  refine (Start_any HD2.out (.inr ⟨E1, E2⟩) true).mono ?_
  rintro e w3 ⟨rfl, hd, hk⟩
  have HD3 : Hid (IsPr w3 g ⟨P, E, true, P, 0 % E + 1⟩) := Lib.hid (by
    have h := hd
    unfold Pr.start at h
    simp only [Bool.not_false, Bool.and_true, if_true] at h
    have ea : after 0 E = 0 % E + 1 := by unfold after; rw [if_neg (by omega)]
    rw [ea] at h
    exact h)
  have HC3 : Hid (IsCo 68 w3 f (Al E F M 0)) := Lib.hid (by
    have h := HC2.out.keep hk (fun e => by have := HF.out; unfold Own.One at e; omega)
    have : Al E F M 0 = ⟨E, 0, 0, 0, 0, 0⟩ := by
      unfold Al
      rw [if_pos rfl, if_pos (by omega), if_neg (by omega)]
    rw [this]
    exact h)
  have HK3 := Lib.hid (HK2.out.trans hk (fun i hi => .inr (by have := HG.out; unfold Own.One at hi; omega)))
  clear hd hk HD2 HC2 HK2
  go_wp2_with fail
  rw [← HM.out]
  go_loopg [16, 17] n.toNat (fun k wv i wr => ∃ (j : Nat), j ≤ n.toNat ∧ k = n.toNat - j ∧ i = .int .i64 j ∧ wv = .int .i64 (Al E F M j).wrong ∧ IsPr wr g ⟨P, E, true, P, (j : Int) % E + 1⟩ ∧ IsCo 68 wr f (Al E F M j) ∧ Keep Zero w wr)
  case atStart => exact ⟨0, Nat.zero_le _, rfl, rfl, by
    have : (Al E F M ((0 : Nat) : Int)).wrong = 0 := by simp only [Al]; rw [if_neg (by omega)]
    rw [this], HD3.out, HC3.out, HK3.out⟩
  case round =>
    obtain ⟨j, hj, hk, rfl, rfl, hd, hc, hkp⟩ := hrel
    clear HD3 HC3 HK3
    have HN := Lib.hid hk
    have HD := Lib.hid hd
    have HC := Lib.hid hc
    have HK := Lib.hid hkp
    obtain ⟨wr0, hwr⟩ : ∃ x, (Al E F M j).wrong = x := ⟨_, rfl⟩
    have HW := Lib.hid hwr
    have hwb : 0 ≤ wr0 ∧ wr0 ≤ 1 := by rw [← hwr]; simp only [Al]; split <;> omega
    obtain ⟨wb0, wb1⟩ := hwb
    rw [hwr]
    clear hk hd hc hkp hwr
    by_cases hlt : (j : Int) < n
    · go_wp2_with fail
      rw [← HP.out]
      refine (Tick_1 HD.out P1 P2 E1 E2).mono ?_
      rintro e w4 ⟨b, o, c, rfl, hcell, hd, hk⟩
      have HD4 : Hid (IsPr w4 g ⟨P, E, true, P, ((j + 1 : Nat) : Int) % E + 1⟩) := Lib.hid hd
      have HC4 := Lib.hid (HC.out.keep hk (fun e => by have := HF.out; unfold Own.One at e; omega))
      have HK4 := Lib.hid (HK.out.trans hk (fun i hi => .inr (by have := HG.out; unfold Own.One at hi; omega)))
      have HCell := Lib.hid hcell
      clear hd hk hcell HD HC HK
      by_cases hs : F < (j : Int) ∧ (j : Int) ≤ F + M
      · obtain ⟨s1, s2⟩ := hs
        have HC5 : Hid (IsCo 68 w4 f (Al E F M ((j + 1 : Nat) : Int))) := Lib.hid (by
          have h := HC4.out
          rw [← al_lost F0 s1 s2] at h
          exact h)
        have HW5 : Hid ((Al E F M ((j + 1 : Nat) : Int)).wrong = wr0) := Lib.hid (by
          have h := HW.out
          rw [← al_lost F0 s1 s2] at h
          exact h)
        go_wp2_with fail
        go_roundg (n.toNat - (j + 1))
        case measure => rw [HN.out]; omega
        case rel => exact ⟨j + 1, by omega, rfl, by go_num, by rw [HW5.out], HD4.out, HC5.out, HK4.out⟩
      · have hcell := HCell.out
        by_cases hbad : 0 < M ∧ (j : Int) = F + M + 1
        · have t2 : decide ((j : Int) ≤ F + M) = false := by simp; omega
          have t3 : ((j : Int) != F + M + 1) = false := by simp; omega
          have t4 : F < (j : Int) := by omega
          have HR : Hid ((6 : Int) = if 0 < M ∧ (j : Int) = F + M + 1 then 6 else 0) := Lib.hid (by rw [if_pos hbad])
          have HW5 : Hid ((Al E F M ((j + 1 : Nat) : Int)).wrong = wr0 + 1) := Lib.hid (by
            rw [← HW.out]
            simp only [Al]
            rw [if_pos (by omega), if_neg (by omega)]
            rfl)
          have HI : Hid ((j : Int) ≤ F ∨ F + M < (j : Int)) := Lib.hid (by omega)
          clear hs hbad
          go_wp2_with fail
          refine (Take_al HC4.out E1 E2 F0 F1 M0 (by omega) (by omega) (by omega) HI.out 6 HR.out).mono ?_
          rintro e w5 ⟨rfl, hc, hk⟩
          have HC6 : Hid (IsCo 68 w5 f (Al E F M ((j + 1 : Nat) : Int))) := Lib.hid hc
          have HD6 := Lib.hid (HD4.out.keep hk (fun e => by have := HF.out; unfold Own.One at e; omega))
          have HK6 := Lib.hid (HK4.out.trans hk (fun i hi => .inr (by have := HG.out; have := HF.out; unfold Own.One at hi; omega)))
          clear hc hk hcell
          go_wp2_with fail
          go_roundg (n.toNat - (j + 1))
          case measure => rw [HN.out]; omega
          case rel => exact ⟨j + 1, by omega, rfl, by go_num, by rw [HW5.out], HD6.out, HC6.out, HK6.out⟩
        · have HR : Hid ((0 : Int) = if 0 < M ∧ (j : Int) = F + M + 1 then 6 else 0) := Lib.hid (by rw [if_neg hbad])
          have HW5 : Hid ((Al E F M ((j + 1 : Nat) : Int)).wrong = wr0) := Lib.hid (by
            rw [← HW.out]
            simp only [Al]
            split <;> split <;> omega)
          have HI : Hid ((j : Int) ≤ F ∨ F + M < (j : Int)) := Lib.hid (by omega)
          clear hbad
          by_cases hf : F < (j : Int)
          · have t2 : decide ((j : Int) ≤ F + M) = false := by simp; omega
            clear hs
            go_wp2_with fail
            refine (Take_al HC4.out E1 E2 F0 F1 M0 (by omega) (by omega) (by omega) HI.out 0 HR.out).mono ?_
            rintro e w5 ⟨rfl, hc, hk⟩
            have HC6 : Hid (IsCo 68 w5 f (Al E F M ((j + 1 : Nat) : Int))) := Lib.hid hc
            have HD6 := Lib.hid (HD4.out.keep hk (fun e => by have := HF.out; unfold Own.One at e; omega))
            have HK6 := Lib.hid (HK4.out.trans hk (fun i hi => .inr (by have := HG.out; have := HF.out; unfold Own.One at hi; omega)))
            clear hc hk hcell
            go_wp2_with fail
            go_roundg (n.toNat - (j + 1))
            case measure => rw [HN.out]; omega
            case rel => exact ⟨j + 1, by omega, rfl, by go_num, by rw [HW5.out], HD6.out, HC6.out, HK6.out⟩
          · have t1 : decide (F < (j : Int)) = false := decide_eq_false hf
            clear hs
            go_wp2_with fail
            refine (Take_al HC4.out E1 E2 F0 F1 M0 (by omega) (by omega) (by omega) HI.out 0 HR.out).mono ?_
            rintro e w5 ⟨rfl, hc, hk⟩
            have HC6 : Hid (IsCo 68 w5 f (Al E F M ((j + 1 : Nat) : Int))) := Lib.hid hc
            have HD6 := Lib.hid (HD4.out.keep hk (fun e => by have := HF.out; unfold Own.One at e; omega))
            have HK6 := Lib.hid (HK4.out.trans hk (fun i hi => .inr (by have := HG.out; have := HF.out; unfold Own.One at hi; omega)))
            clear hc hk hcell
            go_wp2_with fail
            go_roundg (n.toNat - (j + 1))
            case measure => rw [HN.out]; omega
            case rel => exact ⟨j + 1, by omega, rfl, by go_num, by rw [HW5.out], HD6.out, HC6.out, HK6.out⟩
    · have hjn : (j : Int) = n := by omega
      have HW2 : Hid (wr0 = if 0 < M ∧ F + M + 1 < n then 1 else 0) := Lib.hid (by rw [← HW.out, ← hjn]; rfl)
      clear hjn
      by_cases hM : 0 < M
      · by_cases hn : F + M + 1 < n
        · have e1 : wr0 = 1 := by rw [HW2.out, if_pos ⟨hM, hn⟩]
          have b1 : (wr0 == 1) = true := by simp [e1]
          have HW3 := HW.out
          clear e1
          go_wp2_with fail
          refine (Wrong_any HC.out).mono ?_
          rintro e w' ⟨rfl, rfl⟩
          go_wp2_with ((with_reducible refine (lives_any _).mono ?_); rintro e w' ⟨rfl, hk⟩)
          go_ret
          rename_i hk
          exact ⟨rfl, HK.out.trans hk.out (fun i hi => hi.elim)⟩
        · have e1 : wr0 = 0 := by rw [HW2.out, if_neg (fun h => hn h.2)]
          have b1 : (wr0 == 0) = true := by simp [e1]
          have HW3 := HW.out
          have t1 : decide (F + M + 1 < n) = false := decide_eq_false hn
          clear e1
          go_wp2_with fail
          refine (Wrong_any HC.out).mono ?_
          rintro e w' ⟨rfl, rfl⟩
          go_wp2_with ((with_reducible refine (lives_any _).mono ?_); rintro e w' ⟨rfl, hk⟩)
          go_ret
          rename_i hk
          exact ⟨rfl, HK.out.trans hk.out (fun i hi => hi.elim)⟩
      · have e1 : wr0 = 0 := by rw [HW2.out, if_neg (fun h => hM h.1)]
        have b1 : (wr0 == 0) = true := by simp [e1]
        have HW3 := HW.out
        have t1 : decide (0 < M) = false := decide_eq_false hM
        clear e1
        go_wp2_with fail
        refine (Wrong_any HC.out).mono ?_
        rintro e w' ⟨rfl, rfl⟩
        go_wp2_with ((with_reducible refine (lives_any _).mono ?_); rintro e w' ⟨rfl, hk⟩)
        go_ret
        rename_i hk
        exact ⟨rfl, HK.out.trans hk.out (fun i hi => hi.elim)⟩
end Go.Proofs.Ytmaajpkkdpaeeaa.Sync
