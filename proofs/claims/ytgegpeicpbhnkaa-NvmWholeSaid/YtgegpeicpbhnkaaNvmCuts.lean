/- NvmCuts's walk. -/
import Derived.Test.YtgegpeicpbhnkaaNvmRoom
namespace Go.Proofs.Ytgegpeicpbhnkaa.Nvm
open Go.RowKit Go.Proofs.Ytgegpeicpbhnkaa.Own Go.Proofs.Ytgegpeicpbhnkaa.Crc
/-- append([]byte{}, xs...): a copy of one's own, while a chip stands. -/
theorem copied {w w2 : World} {g : Nat} {c : Ch} {v : Value} {l : Nat} {xs : List Int} (hc : IsCh w g c) (hl : l = xs.length) (hown : w2.ownsRow w.heap.size 5 1 v (0 + l) ([] ++ ints .u8 xs)) (hgr : (w.alloc (.cells #[] 5)).grownBy w2 (some w.heap.size)) :
    IsCh w2 g c ∧ Keep Zero w w2 ∧ ∃ A d, v = .slice A l d ∧ Src w2 g c.pg A d xs := by
  have hg := hc.chip.lt
  have hp := hc.pages.lt
  have hk : Keep Zero w w2 := ((Keep.refl Zero w).alloc _).grown hgr (fun k hk => .inr (by cases hk; exact Nat.le_refl _))
  rw [Nat.zero_add, List.nil_append] at hown
  obtain ⟨A, d, hv, hs⟩ := own_src hown hl g c.pg hg hp
  rw [← hl] at hv
  exact ⟨hc.keep hk id id, hk, A, d, hv, hs⟩
/-- An operation whose guard asks for it. -/
theorem wpList_want {P : Program} {ops : Array Oper} {rest : List Oper} {o : Oper} {a : Act} {w : World} {Q : Exit → Act → World → Prop} (hw : Region.wanted o (yielded ops a.tmps) = true) (h : o.wp P a w (wpList P ops Q rest) Q) : wpList P ops Q (o :: rest) a w := by
  rw [wpList, if_pos hw]
  exact .inl h
set_option maxRecDepth 100000 in
set_option maxHeartbeats 8000000 in
theorem cuts_walk (A B : Option Addr) (ca cb : Nat) (xs ys : List Int) (w : World) (hx : In w A ca xs) (hy : In w B cb ys) :
    Calls Try.prog 5 #[.slice A xs.length ca, .slice B ys.length cb] w fun e w' => e = .returned (.bool true) ∧ Keep Zero w w' := by
  have HX := Lib.hid hx
  have HY := Lib.hid hy
  obtain ⟨n, hn⟩ : ∃ n, n = xs.length := ⟨_, rfl⟩
  obtain ⟨m, hm⟩ : ∃ m, m = ys.length := ⟨_, rfl⟩
  have HN := Lib.hid hn
  have HM := Lib.hid hm
  have nb : n ≤ 140737488355328 := by rw [hn]; exact hx.big
  have mb : m ≤ 140737488355328 := by rw [hm]; exact hy.big
  rw [← hn, ← hm]
  clear hx hy hn hm
  by_cases h1 : 60 < n
  · have b1 : (60 : Int) < (n : Int) := by omega
    clear h1
    go_enter Try.func5, Try.ntmps5
    go_wp2_with ((with_reducible refine (lives_any _).mono ?_); rintro e w' ⟨rfl, hk⟩)
    go_ret
    rename_i hk
    exact ⟨rfl, hk.out⟩
  have b1 : decide ((60 : Int) < (n : Int)) = false := by simp; omega
  by_cases h2 : 60 < m
  · have b2 : (60 : Int) < (m : Int) := by omega
    clear h1 h2
    go_enter Try.func5, Try.ntmps5
    go_wp2_with ((with_reducible refine (lives_any _).mono ?_); rintro e w' ⟨rfl, hk⟩)
    go_ret
    rename_i hk
    exact ⟨rfl, hk.out⟩
  have b2 : decide ((60 : Int) < (m : Int)) = false := by simp; omega
  have n60 : n ≤ 60 := by omega
  have m60 : m ≤ 60 := by omega
  clear h1 h2
  go_enter Try.func5, Try.ntmps5
  go_wp2_with fail
  go_loopg [5] 12 (fun k s5 wr => ∃ j : Nat, j ≤ 12 ∧ k = 12 - j ∧ s5 = .int .i64 j ∧ Keep Zero w wr)
  case atStart => exact ⟨0, by omega, rfl, rfl, Keep.refl _ _⟩
  case round =>
    obtain ⟨j, hj, hk, rfl, hkp⟩ := hrel
    have HMs := Lib.hid hk
    have HK := Lib.hid hkp
    clear hk hkp
    by_cases hlt : (j : Int) < 12
    · go_wp2_with fail
      refine (New_ok 20 (by decide) (by decide) _).mono ?_
      rintro e w1 ⟨g, pg, rfl, hc, hg, hpg, hk⟩
      have HC1 := Lib.hid hc
      have HK1 := Lib.hid (HK.out.trans hk (fun i hi => hi.elim))
      have HG : Hid (w.heap.size ≤ g ∧ w.heap.size ≤ pg) := Lib.hid (by have := HK.out.size; omega)
      have HR1 : Hid (Row (w1.alloc (.cells #[] 5)) A (ints .u8 xs)) := Lib.hid (HX.out.row.keep (HK1.out.alloc (.cells #[] 5)) (fun _ _ _ => id))
      clear hc hk hg hpg
      go_wp2_with (at_builtin; refine wpList_want (by rfl) ?_; refine wp_app (.tmp 37) (.tmp 38) 22 rfl w1.heap.size 5 (.int .u8 0) 1 1 under22 info5 rfl (by decide) (.slice (some ⟨w1.heap.size, 0, none⟩) 0 0) 0 [] rfl (own_empty 1 (Blk.new w1 _ _)) A n ca (ints .u8 xs) rfl (by rw [ints_length, HN.out]; omega) HX.out.nil HR1.out (ints_one _ _) (by unfold maxLen; omega) (by omega) (by simp) ?_; intro v2 w2 hown2 hgr2)
      obtain ⟨hc2, hk2, A2, d2, rfl, hs2⟩ := copied HC1.out HN.out hown2 hgr2
      have HC2 : Hid (IsCh w2 g (Ch.new pg 20)) := Lib.hid hc2
      have HK2 := Lib.hid (HK1.out.trans hk2 (fun i hi => hi.elim))
      have HS2 := Lib.hid hs2
      clear hown2 hgr2 hc2 hk2 hs2
      have HF1 : Hid (fits (Ch.new pg 20) xs) := Lib.hid (show (xs.length : Int) ≤ 8 * (((20 : Nat) : Int) / 2 - 1) by rw [← HN.out]; omega)
      have HF2 : Hid ((ys.length : Int) ≤ 8 * (((20 : Nat) : Int) / 2 - 1)) := Lib.hid (by rw [← HM.out]; omega)
      rw [HN.out]
      go_wp2_with fail
      refine (Save_l HC2.out rfl (by simp [Ch.new]) A2 d2 xs HS2.out HX.out.byte HF1.out [] 0 (kept_fresh pg 20)).mono ?_
      rintro e w3 ⟨rfl, P3, hp⟩
      rw [← HN.out]
      have HC3 : Hid (IsCh w3 g ⟨pg, 20, P3, -1, false⟩) := Lib.hid hp.out.1
      have HKp3 : Hid (Kept ⟨pg, 20, P3, -1, false⟩ xs 1) := Lib.hid hp.out.2.1
      have HK3 : Hid (Keep Zero w w3) := Lib.hid (HK2.out.trans hp.out.2.2 (far_chip HG.out.1 HG.out.2))
      clear hp
      go_wp2_with fail
      refine (Cut_any HC3.out j (by omega)).mono ?_
      rintro e w4 ⟨rfl, hc, hk⟩
      have HC4 : Hid (IsCh w4 g ⟨pg, 20, P3, j, false⟩) := Lib.hid (by
        have h := hc
        unfold Ch.cut at h
        rw [show max (j : Int) (-1) = j by omega] at h
        exact h)
      have HK4 := Lib.hid (HK3.out.trans hk (fun i hi => .inr (by have := HG.out; unfold Own.One at hi; omega)))
      have HR4 : Hid (Row (w4.alloc (.cells #[] 5)) B (ints .u8 ys)) := Lib.hid (HY.out.row.keep (HK4.out.alloc (.cells #[] 5)) (fun _ _ _ => id))
      clear hc hk
      go_wp2_with (at_builtin; refine app_own rfl (.tmp 47) (.tmp 48) 22 rfl w4.heap.size 5 (.int .u8 0) 1 1 under22 info5 rfl (by decide) (.slice (some ⟨w4.heap.size, 0, none⟩) 0 0) 0 [] rfl (own_empty 1 (Blk.new w4 _ _)) B m cb (ints .u8 ys) rfl (by rw [ints_length, HM.out]; omega) HY.out.nil HR4.out (ints_one _ _) (by unfold maxLen; omega) (by omega) (by simp) ?_; intro v5 w5 hown5 hgr5)
      obtain ⟨hc5, hk5, A5, d5, rfl, hs5⟩ := copied HC4.out HM.out hown5 hgr5
      have HC5 : Hid (IsCh w5 g ⟨pg, 20, P3, j, false⟩) := Lib.hid hc5
      have HK5 := Lib.hid (HK4.out.trans hk5 (fun i hi => hi.elim))
      have HS5 := Lib.hid hs5
      clear hown5 hgr5 hc5 hk5 hs5
      have hpn : pagesOf ys = (m + 7) / 8 := by unfold pagesOf; rw [← HM.out]
      have HPn := Lib.hid hpn
      clear hpn
      rw [HM.out]
      by_cases hw : 2 + (pagesOf ys : Int) ≤ (j : Int)
      · have HWn : Hid (2 + (pagesOf ys : Int) ≤ (j : Int)) := Lib.hid hw
        have hw2 : 2 + ((m : Int) + 7) / 8 ≤ (j : Int) := by have := HPn.out; omega
        clear hw
        go_wp2_with fail
        refine (Save_goes HC5.out rfl A5 d5 ys HS5.out HY.out.byte HF2.out HWn.out xs 1 HKp3.out).mono ?_
        rintro e w6 ⟨rfl, P6, hp⟩
        rw [← HM.out]
        have HC6 : Hid (IsCh w6 g ⟨pg, 20, P6, (j : Int) - (2 + pagesOf ys), false⟩) := Lib.hid hp.out.1
        have HKp6 : Hid (Kept ⟨pg, 20, P6, -1, false⟩ ys 2) := Lib.hid hp.out.2.1
        have HK6 : Hid (Keep Zero w w6) := Lib.hid (HK5.out.trans hp.out.2.2 (far_chip HG.out.1 HG.out.2))
        clear hp
        go_wp2_with fail
        refine (Power_any HC6.out).mono ?_
        rintro e w7 ⟨rfl, hc, hk⟩
        have HC7 : Hid (IsCh w7 g ⟨pg, 20, P6, -1, false⟩) := Lib.hid hc
        have HK7 := Lib.hid (HK6.out.trans hk (fun i hi => .inr (by have := HG.out; unfold Own.One at hi; omega)))
        clear hc hk
        go_wp2_with fail
        refine (Load_k HC7.out ys 2 HKp6.out).mono ?_
        rintro e w8 ⟨A8, d8, rfl, hp⟩
        have HK8 := Lib.hid (HK7.out.trans hp.out.2.2.2.1 (fun i hi => hi.elim))
        have r1 : Sem.run Try.prog (convert 22 9 (.slice A8 m d8)) w8 = .ok (.string (str ys)) w8 := run_str under22 under5 under9 hp.out.1 m HM.out
        have r2 : Sem.run Try.prog (convert 22 9 (.slice B m cb)) w8 = .ok (.string (str ys)) w8 := run_str under22 under5 under9 (HY.out.row.keep HK8.out (fun _ _ _ => id)) m HM.out
        rw [← HM.out]
        clear hp
        go_wp2_with fail
        go_roundg (12 - (j + 1))
        case measure => rw [HMs.out]; omega
        case rel => exact ⟨j + 1, by omega, rfl, by go_num, HK8.out⟩
      · have HWn : Hid ((j : Int) < 2 + (pagesOf ys : Int)) := Lib.hid (by omega)
        have hw2 : decide (2 + ((m : Int) + 7) / 8 ≤ (j : Int)) = false := by have := HPn.out; simp; omega
        clear hw
        go_wp2_with fail
        refine (Save_gone HC5.out rfl (show (0 : Int) ≤ (j : Int) by omega) A5 d5 ys HS5.out HY.out.byte HF2.out HWn.out xs 1 HKp3.out).mono ?_
        rintro e w6 ⟨rfl, P6, hp⟩
        rw [← HM.out]
        have HC6 : Hid (IsCh w6 g ⟨pg, 20, P6, -1, true⟩) := Lib.hid hp.out.1
        have HKp6 : Hid (Kept ⟨pg, 20, P6, -1, false⟩ xs 1) := Lib.hid hp.out.2.1
        have HK6 : Hid (Keep Zero w w6) := Lib.hid (HK5.out.trans hp.out.2.2 (far_chip HG.out.1 HG.out.2))
        clear hp
        go_wp2_with fail
        refine (Power_any HC6.out).mono ?_
        rintro e w7 ⟨rfl, hc, hk⟩
        have HC7 : Hid (IsCh w7 g ⟨pg, 20, P6, -1, false⟩) := Lib.hid hc
        have HK7 := Lib.hid (HK6.out.trans hk (fun i hi => .inr (by have := HG.out; unfold Own.One at hi; omega)))
        clear hc hk
        go_wp2_with fail
        refine (Load_k HC7.out xs 1 HKp6.out).mono ?_
        rintro e w8 ⟨A8, d8, rfl, hp⟩
        have HK8 := Lib.hid (HK7.out.trans hp.out.2.2.2.1 (fun i hi => hi.elim))
        have r1 : Sem.run Try.prog (convert 22 9 (.slice A8 n d8)) w8 = .ok (.string (str xs)) w8 := run_str under22 under5 under9 hp.out.1 n HN.out
        have r2 : Sem.run Try.prog (convert 22 9 (.slice A n ca)) w8 = .ok (.string (str xs)) w8 := run_str under22 under5 under9 (HX.out.row.keep HK8.out (fun _ _ _ => id)) n HN.out
        rw [← HN.out]
        clear hp
        go_wp2_with fail
        go_roundg (12 - (j + 1))
        case measure => rw [HMs.out]; omega
        case rel => exact ⟨j + 1, by omega, rfl, by go_num, HK8.out⟩
    · go_wp2_with ((with_reducible refine (lives_any _).mono ?_); rintro e w' ⟨rfl, hk⟩)
      go_ret
      rename_i hk
      exact ⟨rfl, HK.out.trans hk.out (fun i hi => hi.elim)⟩
end Go.Proofs.Ytgegpeicpbhnkaa.Nvm
