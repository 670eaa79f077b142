/- NvmAgain's walk. -/
import Derived.Test.YtgegpeicpbhnkaaNvmCuts
namespace Go.Proofs.Ytgegpeicpbhnkaa.Nvm
open Go.RowKit Go.Proofs.Ytgegpeicpbhnkaa.Own Go.Proofs.Ytgegpeicpbhnkaa.Crc
def zeroB : Nat → Int := fun _ => 0
def Erased (w : World) (g : Nat) (c : Ch) (e : Ending) (w' : World) : Prop :=
  e = .returned (.int .i64 0) ∧ ∃ P, Hid (IsCh w' g ⟨c.pg, c.n, P, c.left, false⟩ ∧ Kept ⟨c.pg, c.n, P, c.left, false⟩ [] 0 ∧ Keep (Chp g c.pg) w w')
theorem Write_live {w : World} {g : Nat} {pg n : Nat} {P : Nat → Int} {left : Int} (h : IsCh w g ⟨pg, n, P, left, false⟩) (hl : left < 0) (k : Nat) (hk : k < n) (b : Nat → Int) (hb : ∀ i, 0 ≤ b i ∧ b i ≤ 255) :
    Calls Try.prog 24 #[.pointer (some ⟨g, 0, none⟩), .int .i64 k, pageV b] w fun e w' => e = .returned (.bool true) ∧ Hid (IsCh w' g ⟨pg, n, put P k b, left, false⟩ ∧ Keep (Chp g pg) w w') := by
  refine (Write_any h k b hb).mono ?_
  rintro e w' ⟨he, h1, h2⟩
  rw [write_live (c := ⟨pg, n, P, left, false⟩) ⟨rfl, hl⟩ k hk b] at he h1 h2
  exact ⟨he, h1, h2⟩
set_option maxRecDepth 100000 in
set_option maxHeartbeats 4000000 in
theorem Erase_l {w : World} {g : Nat} {pg n : Nat} {P : Nat → Int} {left : Int} (h : IsCh w g ⟨pg, n, P, left, false⟩) (hl : left < 0) : Calls Try.prog 16 #[.pointer (some ⟨g, 0, none⟩)] w (Erased w g ⟨pg, n, P, left, false⟩) := by
  have n0 : 4 ≤ n := h.n0
  have H := Lib.hid h
  obtain ⟨m, hm⟩ : ∃ m, m = n / 2 := ⟨_, rfl⟩
  have hm1 : 1 ≤ m := by omega
  have hm2 : m < n := by omega
  have HM := Lib.hid hm
  have i0 : ∀ w, (Instr.index 56 (.agg #[.pointer (some ⟨g, 0, none⟩), .int .i64 0, .int .i64 (m : Int), .pointer (some ⟨g, 0, none⟩), .int .i64 (m : Int), .int .i64 (m : Int)]) (.int .i64 0)).run Try.prog w = .ok (.agg #[.pointer (some ⟨g, 0, none⟩), .int .i64 0, .int .i64 (m : Int)]) w := fun _ => by kernel_rfl
  have i1 : ∀ w, (Instr.index 56 (.agg #[.pointer (some ⟨g, 0, none⟩), .int .i64 0, .int .i64 (m : Int), .pointer (some ⟨g, 0, none⟩), .int .i64 (m : Int), .int .i64 (m : Int)]) (.int .i64 1)).run Try.prog w = .ok (.agg #[.pointer (some ⟨g, 0, none⟩), .int .i64 (m : Int), .int .i64 (m : Int)]) w := fun _ => by kernel_rfl
  clear h hm
  go_enter Try.func16, Try.ntmps16
  go_wp2_with fail
  refine (halves_h H.out m HM.out).mono ?_
  rintro e w1 ⟨rfl, hk1⟩
  have H1 := Lib.hid (H.out.keep hk1.out id id)
  have HK1 : Hid (Keep (Chp g pg) w w1) := Lib.hid (hk1.out.mono (fun i hi => hi.elim))
  clear hk1
  go_wp2_with fail
  go_loopg [9] 2 (fun k s9 wr => ∃ (j : Nat) (Q : Nat → Int), j ≤ 2 ∧ k = 2 - j ∧ s9 = .int .i64 j ∧ IsCh wr g ⟨pg, n, Q, left, false⟩ ∧ Keep (Chp g pg) w wr ∧ (1 ≤ j → Q (0 * 8) = 0 ∧ Q (0 * 8 + 1) = 0) ∧ (2 ≤ j → Q (m * 8) = 0 ∧ Q (m * 8 + 1) = 0))
  case atStart => exact ⟨0, P, by omega, rfl, rfl, H1.out, HK1.out, (fun h => by omega), (fun h => by omega)⟩
  case round =>
    obtain ⟨j, Q, hj, hk, rfl, hc, hkp, hz0, hz1⟩ := hrel
    have HN := Lib.hid hk
    have HC := Lib.hid hc
    have HK := Lib.hid hkp
    have HZ0 := Lib.hid hz0
    have HZ1 := Lib.hid hz1
    have hgl : g < wr.heap.size := hc.chip.lt
    clear hk hc hkp hz0 hz1
    by_cases h0 : j = 0
    · subst h0
      have HCa : Hid (IsCh (wr.alloc (.cells #[.pointer (some ⟨g, 0, none⟩), .int .i64 0, .int .i64 (m : Int)] 55)) g ⟨pg, n, Q, left, false⟩) := Lib.hid (HC.out.keep ((Keep.refl Own.Zero wr).alloc _) id id)
      have HKa := Lib.hid (HK.out.alloc (.cells #[.pointer (some ⟨g, 0, none⟩), .int .i64 0, .int .i64 (m : Int)] 55))
      go_wp2_with fail
      refine (Write_live HCa.out hl 0 (by omega) zeroB (fun _ => ⟨by unfold zeroB; omega, by unfold zeroB; omega⟩)).mono ?_
      rintro e w2 ⟨rfl, hp⟩
      have HP := hp
      clear hp
      go_wp2_with fail
      go_roundg 1
      case measure => rw [HN.out]; omega
      case rel => exact ⟨1, put Q 0 zeroB, by omega, rfl, rfl, HP.out.1, HKa.out.trans HP.out.2 (fun i hi => .inl hi), (fun _ => ⟨put_in (r := 0) (by decide), put_in (r := 1) (by decide)⟩), (fun h => by omega)⟩
    by_cases h1 : j = 1
    · subst h1
      have HCa : Hid (IsCh (wr.alloc (.cells #[.pointer (some ⟨g, 0, none⟩), .int .i64 (m : Int), .int .i64 (m : Int)] 55)) g ⟨pg, n, Q, left, false⟩) := Lib.hid (HC.out.keep ((Keep.refl Own.Zero wr).alloc _) id id)
      have HKa := Lib.hid (HK.out.alloc (.cells #[.pointer (some ⟨g, 0, none⟩), .int .i64 (m : Int), .int .i64 (m : Int)] 55))
      clear h0
      go_wp2_with fail
      refine (Write_live HCa.out hl m hm2 zeroB (fun _ => ⟨by unfold zeroB; omega, by unfold zeroB; omega⟩)).mono ?_
      rintro e w2 ⟨rfl, hp⟩
      have HP := hp
      clear hp
      go_wp2_with fail
      go_roundg 0
      case measure => rw [HN.out]; omega
      case rel => exact ⟨2, put Q m zeroB, by omega, rfl, rfl, HP.out.1, HKa.out.trans HP.out.2 (fun i hi => .inl hi), (fun _ => by
        have h := HZ0.out (by omega)
        have e0 : put Q m zeroB (0 * 8) = Q (0 * 8) := put_out (by omega)
        have e1 : put Q m zeroB (0 * 8 + 1) = Q (0 * 8 + 1) := put_out (by omega)
        rw [e0, e1]
        exact h), (fun _ => ⟨put_in (r := 0) (by decide), put_in (r := 1) (by decide)⟩)⟩
    obtain rfl : j = 2 := by omega
    clear h0 h1
    go_wp2_with fail
    go_ret
    refine ⟨rfl, Q, HC.out, ?_, HK.out⟩
    have z0 := HZ0.out (by omega)
    have z1 := HZ1.out (by omega)
    have hA : holdsF Q 0 m = ([], 0) := holdsF_none z0.1 z0.2
    have hB : holdsF Q m m = ([], 0) := holdsF_none z1.1 z1.2
    unfold Kept keptF
    simp only
    rw [← HM.out, hA, hB]
    simp
set_option maxRecDepth 100000 in
set_option maxHeartbeats 8000000 in
theorem again_walk (A : Option Addr) (ca : Nat) (xs : List Int) (t : Int) (t0 : 0 ≤ t) (t1 : t ≤ 255) (w : World) (hx : In w A ca xs) :
    Calls Try.prog 6 #[.slice A xs.length ca, .int .u8 t] w fun e w' => e = .returned (.bool true) ∧ Keep Zero w w' := by
  have HX := Lib.hid hx
  obtain ⟨n, hn⟩ : ∃ n, n = xs.length := ⟨_, rfl⟩
  have HN := Lib.hid hn
  have nb : n ≤ 140737488355328 := by rw [hn]; exact hx.big
  rw [← hn]
  clear hx hn
  go_enter Try.func6, Try.ntmps6
  go_wp2_with fail
  refine (New_ok 12 (by decide) (by decide) _).mono ?_
  rintro e w1 ⟨g, pg, rfl, hc, hg, hpg, hk⟩
  have HC1 := Lib.hid hc
  have HK1 := Lib.hid hk
  have HG : Hid (w.heap.size ≤ g ∧ w.heap.size ≤ pg) := Lib.hid ⟨hg, hpg⟩
  have HR1 : Hid (Row (w1.alloc (.cells #[] 5)) A (ints .u8 xs)) := Lib.hid (HX.out.row.keep (hk.alloc (.cells #[] 5)) (fun _ _ _ => id))
  clear hc hk hg hpg
  go_wp2_with (at_builtin; refine app_own rfl (.tmp 25) (.tmp 26) 22 rfl w1.heap.size 5 (.int .u8 0) 1 1 under22 info5 rfl (by decide) (.slice (some ⟨w1.heap.size, 0, none⟩) 0 0) 0 [] rfl (own_empty 1 (Blk.new w1 _ _)) A n ca (ints .u8 xs) rfl (by rw [ints_length, HN.out]; omega) HX.out.nil HR1.out (ints_one _ _) (by unfold maxLen; omega) (by omega) (by simp) ?_; intro v2 w2 hown2 hgr2)
  obtain ⟨hc2, hk2, A2, d2, rfl, hs2⟩ := copied HC1.out HN.out hown2 hgr2
  have HC2 : Hid (IsCh w2 g (Ch.new pg 12)) := Lib.hid hc2
  have HK2 := Lib.hid (HK1.out.trans hk2 (fun i hi => hi.elim))
  have HS2 := Lib.hid hs2
  clear hown2 hgr2 hc2 hk2 hs2
  rw [HN.out]
  by_cases hf : (xs.length : Int) ≤ 8 * (((12 : Nat) : Int) / 2 - 1)
  · have HF := Lib.hid hf
    clear hf
    go_wp2_with fail
    refine (Save_l HC2.out rfl (by simp [Ch.new]) A2 d2 xs HS2.out HX.out.byte HF.out [] 0 (kept_fresh pg 12)).mono ?_
    rintro e w3 ⟨rfl, P3, hp⟩
    rw [← HN.out]
    have HC3 : Hid (IsCh w3 g ⟨pg, 12, P3, -1, false⟩) := Lib.hid hp.out.1
    have HKp3 : Hid (Kept ⟨pg, 12, P3, -1, false⟩ xs 1) := Lib.hid hp.out.2.1
    have HK3 : Hid (Keep Zero w w3) := Lib.hid (HK2.out.trans hp.out.2.2 (far_chip HG.out.1 HG.out.2))
    clear hp HC1 HC2 HK1 HK2
    go_wp2_with fail
    go_loopg [7] t.toNat (fun k s7 wr => ∃ (j : Nat) (P : Nat → Int) (q : Int), j ≤ t.toNat ∧ k = t.toNat - j ∧ s7 = .int .i64 j ∧ IsCh wr g ⟨pg, 12, P, -1, false⟩ ∧ Kept ⟨pg, 12, P, -1, false⟩ xs q ∧ 1 ≤ q ∧ q ≤ 65535 ∧ Keep Zero w wr)
    case atStart => exact ⟨0, P3, 1, by omega, rfl, rfl, HC3.out, HKp3.out, by decide, by decide, HK3.out⟩
    case round =>
      obtain ⟨j, P, q, hj, hk, rfl, hc, hkp, q0, q1, hkk⟩ := hrel
      clear HC3 HKp3 HK3
      have HM := Lib.hid hk
      have HC := Lib.hid hc
      have HKp := Lib.hid hkp
      have HK := Lib.hid hkk
      clear hk hc hkp hkk
      by_cases hlt : (j : Int) < t
      · have hq0 : decide (0 < q) = true := by simp; omega
        go_wp2_with fail
        refine (Load_k HC.out xs q HKp.out).mono ?_
        rintro e w4 ⟨A4, d4, rfl, hp4⟩
        have HL4 := hp4
        have HC4 := Lib.hid (HC.out.keep hp4.out.2.2.2.1 id id)
        have HK4 := Lib.hid (HK.out.trans hp4.out.2.2.2.1 (fun i hi => hi.elim))
        clear hp4
        rw [← HN.out]
        go_wp2_with fail
        refine (Load_k HC4.out xs q HKp.out).mono ?_
        rintro e w5 ⟨A5, d5, rfl, hp5⟩
        have HC5 := Lib.hid (HC4.out.keep hp5.out.2.2.2.1 id id)
        have HK5 := Lib.hid (HK4.out.trans hp5.out.2.2.2.1 (fun i hi => hi.elim))
        have HR45 := Lib.hid (HL4.out.1.keep hp5.out.2.2.2.1 (fun _ _ _ => id))
        have r1 : Sem.run Try.prog (convert 22 9 (.slice A4 n d4)) w5 = .ok (.string (str xs)) w5 := run_str under22 under5 under9 HR45.out n HN.out
        have r2 : Sem.run Try.prog (convert 22 9 (.slice A n ca)) w5 = .ok (.string (str xs)) w5 := run_str under22 under5 under9 (HX.out.row.keep HK5.out (fun _ _ _ => id)) n HN.out
        have r3 : Sem.run Try.prog (convert 22 9 (.slice A5 n d5)) w5 = .ok (.string (str xs)) w5 := run_str under22 under5 under9 hp5.out.1 n HN.out
        have HS5 : Hid (Src w5 g pg A4 d4 xs) := Lib.hid ⟨HR45.out, HL4.out.2.1, HL4.out.2.2.1, fun a ha e => by
          have h1 := HL4.out.2.2.2.2 a ha
          have h2 := HC.out.chip.lt
          have h3 : pg < wr.heap.size := HC.out.pages.lt
          rcases e with e | e <;> omega⟩
        clear hp5
        rw [← HN.out]
        go_wp2_with fail
        have HSv := Save_l HC5.out rfl (show (-1 : Int) < 0 by decide) A4 d4 xs HS5.out HX.out.byte HF.out xs q HKp.out
        rw [← HN.out] at HSv
        have HSv2 := Lib.hid HSv
        clear HSv
        refine (HSv2.out).mono ?_
        rintro e w6 ⟨rfl, P6, hp⟩
        have HC6 : Hid (IsCh w6 g ⟨pg, 12, P6, -1, false⟩) := Lib.hid hp.out.1
        have HKp6 : Hid (Kept ⟨pg, 12, P6, -1, false⟩ xs (nxt q)) := Lib.hid hp.out.2.1
        have HK6 : Hid (Keep Zero w w6) := Lib.hid (HK5.out.trans hp.out.2.2 (far_chip HG.out.1 HG.out.2))
        have HNq := Lib.hid (nxt_range (n := q) (by omega) q1)
        clear hp r1 r2 r3
        go_wp2_with fail
        go_roundg (t.toNat - (j + 1))
        case measure => rw [HM.out]; omega
        case rel => exact ⟨j + 1, P6, nxt q, by omega, rfl, by go_num, HC6.out, HKp6.out, HNq.out.1, HNq.out.2, HK6.out⟩
      · go_wp2_with fail
        refine (Erase_l HC.out (by decide)).mono ?_
        rintro e w4 ⟨rfl, P4, hp⟩
        have HC4 : Hid (IsCh w4 g ⟨pg, 12, P4, -1, false⟩) := Lib.hid hp.out.1
        have HKp4 : Hid (Kept ⟨pg, 12, P4, -1, false⟩ [] 0) := Lib.hid hp.out.2.1
        have HK4 : Hid (Keep Zero w w4) := Lib.hid (HK.out.trans hp.out.2.2 (far_chip HG.out.1 HG.out.2))
        clear hp
        go_wp2_with fail
        refine (Load_k HC4.out [] 0 HKp4.out).mono ?_
        rintro e w5 ⟨A5, d5, rfl, hp5⟩
        have HK5 := Lib.hid (HK4.out.trans hp5.out.2.2.2.1 (fun i hi => hi.elim))
        clear hp5
        go_wp2_with ((with_reducible refine (lives_any _).mono ?_); rintro e w' ⟨rfl, hk⟩)
        go_ret
        rename_i hk
        exact ⟨rfl, HK5.out.trans hk.out (fun i hi => hi.elim)⟩
  · have HF : Hid (¬ fits (Ch.new pg 12) xs) := Lib.hid hf
    have hfl : 8 * ((12 : Int) / 2 - 1) < (xs.length : Int) := by omega
    clear hf
    go_wp2_with fail
    refine (Save_long HC2.out A2 d2 xs HS2.out HX.out.byte HX.out.big HF.out).mono ?_
    rintro e w3 ⟨rfl, hp⟩
    have HC3 : Hid (IsCh w3 g (Ch.new pg 12)) := Lib.hid hp.out.1
    have HK3 : Hid (Keep Zero w w3) := Lib.hid (HK2.out.trans hp.out.2 (far_chip HG.out.1 HG.out.2))
    have hcn : (Ch.new pg 12).n = 12 := rfl
    clear hp
    go_wp2_with (first | ((with_reducible refine (Room_any HC3.out).mono ?_); rintro e w' ⟨rfl, rfl⟩) | ((with_reducible refine (lives_any _).mono ?_); rintro e w' ⟨rfl, hk⟩))
    go_ret
    rename_i hk
    exact ⟨rfl, HK3.out.trans hk.out (fun i hi => hi.elim)⟩
end Go.Proofs.Ytgegpeicpbhnkaa.Nvm
