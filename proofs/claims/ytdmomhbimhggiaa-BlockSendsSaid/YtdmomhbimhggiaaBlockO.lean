/- The document's frames. -/
import Derived.Test.YtdmomhbimhggiaaBlockN
namespace Go.Proofs.Ytdmomhbimhggiaa.Block
open Go.RowKit Go.Proofs.Ytdmomhbimhggiaa.Own Go.Proofs.Ytdmomhbimhggiaa.Crc
theorem IsDoc.many {w : World} {g : Nat} {d : Doc} (h : IsDoc w g d) (m : Nat) : IsDoc (w.setCell ⟨g, 2, none⟩ (.int .i64 m)) g { d with many := m } := h.put 2 _ _ (by simp [Doc.cells]) rfl rfl rfl h.atb
theorem part_seg (bs : List Int) (N i : Nat) (k : Nat) (k0 : 1 ≤ k) (k7 : k ≤ 7) : partF bs N i 7 k = segF bs N i k := by
  unfold partF segF
  rw [if_neg (by omega), if_pos k7, if_neg (by omega)]
set_option maxRecDepth 100000 in
set_option maxHeartbeats 4000000 in
theorem block_any {w : World} {g : Nat} {d : Doc} (h : IsDoc w g d) (k : Nat) (k0 : 1 ≤ k) (k1 : k ≤ 127) (hat : d.at' < segs d.bs) (m : Nat) (hm : m = min k (segs d.bs - d.at')) :
    Calls Try.prog 26 #[.pointer (some ⟨g, 0, none⟩), .int .i64 k] w fun e w' => ∃ A c, e = .returned (.slice A m c) ∧ Hid (IsDoc w' g { d with many := m } ∧ FrAt w' w.heap.size A m c (framesF d.bs d.at' m) ∧ Keep (Own.One g) w w') := by
  have H := Lib.hid h
  obtain ⟨n, hn⟩ : ∃ n, n = segs d.bs := ⟨_, rfl⟩
  have HN := Lib.hid hn
  have HM := Lib.hid hm
  have hb := h.big
  have hnb : n ≤ 10000 := by rw [hn]; unfold segs; omega
  obtain ⟨j, hj⟩ : ∃ j, j = d.at' := ⟨_, rfl⟩
  have HJ := Lib.hid hj
  have hjn : j < n := by omega
  have hgl := h.blk.lt
  obtain ⟨L, hL⟩ : ∃ L, L = d.bs.length := ⟨_, rfl⟩
  have HL := Lib.hid hL
  have hLb : L ≤ 65536 := by omega
  have hmk : m ≤ k := by omega
  have hmn : m ≤ n - j := by omega
  have hmm : m = k ∨ m = n - j := by omega
  clear h hn hj hb hat hm hL
  go_enter Try.func26, Try.ntmps26
  go_wp2_with fail
  refine (All_is (H.out.alloc _) n HN.out).mono ?_
  rintro e w1 ⟨rfl, hw1⟩
  obtain rfl := hw1
  go_wp2_with fail
  go_loopg [5, 7] m (fun q s5 s7 wr => ∃ i : Nat, i ≤ m ∧ q = m - i ∧ s7 = .int .i64 i ∧ wr.ownsRow w.heap.size 30 8 s5 i (cellsOf (framesF d.bs d.at' i)) ∧ Keep Own.Zero w wr)
  case atStart => exact ⟨0, by omega, rfl, rfl, own_empty 8 (Blk.new w _ _), (Keep.refl Own.Zero w).alloc _⟩
  case round =>
    obtain ⟨i, hi, hq, rfl, hown, hkp⟩ := hrel
    obtain ⟨Al, cl, rfl, _, _, _, _⟩ := Row.own hown
    have HMs := Lib.hid hq
    have HOo := Lib.hid hown
    have HKo := Lib.hid hkp
    clear hq hown hkp
    obtain ⟨wo, hwo⟩ : ∃ x, x = wr := ⟨_, rfl⟩
    subst hwo
    have HDo : Hid (IsDoc wo g d) := Lib.hid (H.out.keep HKo.out id (fun _ _ _ => id))
    have c1 : wo.cell? ⟨g, 1, none⟩ = some (.int .i64 j) := by rw [HJ.out]; exact HDo.out.blk.cell 1
    by_cases hlt : i < m
    · have h1 : (i : Int) < (k : Int) := by omega
      have h2 : (j : Int) + (i : Int) < (n : Int) := by omega
      have h8 : IntKind.u8.wrap ((i : Int) + 1) = (i : Int) + 1 := by rw [IntKind.wrap_u8']; omega
      go_wp2_with fail
      go_loopg [9] 7 (fun q s9 wi => ∃ x : Nat, x ≤ 7 ∧ q = 7 - x ∧ s9 = .int .i64 x ∧ Blk wi wo.heap.size (frameC (partF d.bs (j + i) i x)) 30 ∧ Keep Own.Zero wo wi)
      case atStart => exact ⟨0, by omega, rfl, rfl, Blk.new wo _ _, (Keep.refl Own.Zero wo).alloc _⟩
      case round =>
        obtain ⟨x, hx, hqx, rfl, hbx, hkx⟩ := hrel
        have HQx := Lib.hid hqx
        have HBx := Lib.hid hbx
        have HKx := Lib.hid hkx
        clear hqx hbx hkx
        have HDx : Hid (IsDoc wr g d) := Lib.hid (HDo.out.keep HKx.out id (fun _ _ _ => id))
        have c1x : wr.cell? ⟨g, 1, none⟩ = some (.int .i64 j) := by rw [HJ.out]; exact HDx.out.blk.cell 1
        have c0x : wr.cell? ⟨g, 0, none⟩ = some (.slice d.A L d.cap) := by rw [HL.out]; exact HDx.out.blk.cell 0
        by_cases hx7 : x < 7
        · have hx1 : (x : Int) < 7 := by omega
          have hwp : IntKind.i64.wrap (7 * ((j : Int) + (i : Int))) = 7 * ((j : Int) + (i : Int)) := IntWalk.i64_in _ (by omega)
          have hwq : IntKind.i64.wrap (7 * ((j : Int) + (i : Int)) + (x : Int)) = ((7 * (j + i) + x : Nat) : Int) := by rw [IntWalk.i64_in _ (by omega)]; omega
          obtain ⟨pp, hpp⟩ : ∃ pp, pp = 7 * (j + i) + x := ⟨_, rfl⟩
          rw [← hpp] at hwq
          have hpb : pp ≤ 200000 := by omega
          have HPp := Lib.hid hpp
          clear hpp
          by_cases hpl : pp < L
          · have hpl2 : (pp : Int) < (L : Int) := by omega
            obtain ⟨y, hy⟩ : ∃ y, d.bs[pp]? = some y := ⟨d.bs[pp]'(by rw [← HL.out]; exact hpl), List.getElem?_eq_getElem _⟩
            obtain ⟨bA, oA, hA, lA, gA⟩ := HDx.out.inb.row pp (.int .u8 y) (by rw [ints_get, hy]; rfl)
            have HY : Hid (d.bs.getD (7 * (j + i) + x) 0 = y) := Lib.hid (by rw [← HPp.out, List.getD_eq_getElem?_getD, hy]; rfl)
            rw [hA] at c0x
            have zc := HBx.out.cell (1 + x)
            rw [part_cell _ _ _ _ hx7] at zc
            have zf := HBx.out.frozen (1 + x)
            have hx8 : (1 : Int) + (x : Int) < 8 := by omega
            clear hy hA
            go_wp2_with fail
            have HB2 : Hid (Blk (wr.setCell ⟨wo.heap.size, 1 + x, none⟩ (.int .u8 y)) wo.heap.size (frameC (partF d.bs (j + i) i (x + 1))) 30) := Lib.hid ((HBx.out.set (1 + x) (.int .u8 y)).cast (by rw [← HY.out]; exact part_set _ _ _ _ hx7))
            have HK2 : Hid (Keep Own.Zero wo (wr.setCell ⟨wo.heap.size, 1 + x, none⟩ (.int .u8 y))) := Lib.hid (HKx.out.set (.inr (Nat.le_refl _)) _)
            go_roundg (7 - (x + 1))
            case measure => rw [HQx.out]; omega
            case rel => exact ⟨x + 1, by omega, rfl, by go_num, HB2.out, HK2.out⟩
          · have hpl2 : ¬ (pp : Int) < (L : Int) := by omega
            have HSk : Hid (d.bs.length ≤ 7 * (j + i) + x) := Lib.hid (by rw [← HL.out, ← HPp.out]; omega)
            go_wp2_with fail
            go_roundg (7 - (x + 1))
            case measure => rw [HQx.out]; omega
            case rel => exact ⟨x + 1, by omega, rfl, by go_num, by rw [← part_skip _ _ _ _ hx7 HSk.out]; exact HBx.out, HKx.out⟩
        · have hx8 : x = 7 := by omega
          subst hx8
          have hxn : ¬ ((7 : Nat) : Int) < 7 := by decide
          obtain ⟨F, hF⟩ : ∃ F, F = partF d.bs (j + i) i 7 := ⟨_, rfl⟩
          have HFf := Lib.hid hF
          obtain ⟨X, hX⟩ : ∃ X, X = wr := ⟨_, rfl⟩
          subst hX
          have HBF : Hid (Blk X wo.heap.size (frameC F) 30) := Lib.hid (by rw [hF]; exact HBx.out)
          have y0 : X.cell? ⟨wo.heap.size, 0, none⟩ = some (.int .u8 ((i : Int) + 1)) := by
            have h := HBF.out.cell 0
            rw [hF] at h
            exact h
          have y1 : X.cell? ⟨wo.heap.size, 1, none⟩ = some (.int .u8 (F 1)) := HBF.out.cell 1
          have y2 : X.cell? ⟨wo.heap.size, 2, none⟩ = some (.int .u8 (F 2)) := HBF.out.cell 2
          have y3 : X.cell? ⟨wo.heap.size, 3, none⟩ = some (.int .u8 (F 3)) := HBF.out.cell 3
          have y4 : X.cell? ⟨wo.heap.size, 4, none⟩ = some (.int .u8 (F 4)) := HBF.out.cell 4
          have y5 : X.cell? ⟨wo.heap.size, 5, none⟩ = some (.int .u8 (F 5)) := HBF.out.cell 5
          have y6 : X.cell? ⟨wo.heap.size, 6, none⟩ = some (.int .u8 (F 6)) := HBF.out.cell 6
          have y7 : X.cell? ⟨wo.heap.size, 7, none⟩ = some (.int .u8 (F 7)) := HBF.out.cell 7
          have fz : X.frozen? ⟨wo.heap.size, 0, none⟩ = false := HBF.out.frozen 0
          have HSg : Hid (∀ k, 1 ≤ k → k ≤ 7 → F k = segF d.bs (d.at' + i) i k) := Lib.hid (fun k k0 k1 => by rw [hF, ← HJ.out]; exact part_seg _ _ _ k k0 k1)
          clear hF
          by_cases hlast : j + i + 1 = n
          · have hl2 : (j : Int) + (i : Int) = (n : Int) - 1 := by omega
            have hor : IntKind.u8.wrap ((i : Int) + 1 + 128) = (i : Int) + 129 := by rw [IntKind.wrap_u8']; omega
            have HNw : Hid ([.int .u8 ((i : Int) + 129), .int .u8 (F 1), .int .u8 (F 2), .int .u8 (F 3), .int .u8 (F 4), .int .u8 (F 5), .int .u8 (F 6), .int .u8 (F 7)] = cellsOf [segF d.bs (d.at' + i) i]) := Lib.hid (cells_seg HSg.out (by unfold segF; rw [if_pos rfl, if_pos (by rw [← HN.out, ← HJ.out]; exact hlast)]; omega))
            have HKx2 : Hid (Keep Own.Zero wo (X.setCell ⟨wo.heap.size, 0, none⟩ (.int .u8 ((i : Int) + 129)))) := Lib.hid (HKx.out.set (.inr (Nat.le_refl _)) _)
            have HKf := Lib.hid (HKo.out.trans HKx2.out (fun k hk => hk.elim))
            have HOX : Hid (∀ o, ((X.setCell ⟨wo.heap.size, 0, none⟩ (.int .u8 ((i : Int) + 129))).alloc o).ownsRow w.heap.size 30 8 (.slice Al i cl) i (cellsOf (framesF d.bs d.at' i))) := Lib.hid (fun o => own_keep HOo.out (HKx2.out.alloc o) (fun _ hk => hk.elim))
            have HSz : Hid (w.heap.size ≤ X.heap.size) := Lib.hid (HKo.out.trans HKx.out (fun k hk => hk.elim)).size
            go_wp2_with (at_builtin; refine app_own rfl (.tmp 76) (.tmp 78) 23 rfl w.heap.size 30 (.agg #[.int .u8 0, .int .u8 0, .int .u8 0, .int .u8 0, .int .u8 0, .int .u8 0, .int .u8 0, .int .u8 0]) 8 8 under23 info30 rfl (by decide) (.slice Al i cl) i (cellsOf (framesF d.bs d.at' i)) rfl (HOX.out _) (some ⟨X.heap.size, 0, none⟩) 1 1 [.int .u8 ((i : Int) + 129), .int .u8 (F 1), .int .u8 (F 2), .int .u8 (F 3), .int .u8 (F 4), .int .u8 (F 5), .int .u8 (F 6), .int .u8 (F 7)] rfl rfl (fun h => by cases h) (Row.blk (Blk.at_ (by simp)) (fun i v hv => by simpa using hv)) (by simp [Value.oneCell']) (by unfold maxLen; omega) (by omega) (by have := HSz.out; simp; omega) ?_; intro v3 w3 hown3 hgr3)
            rw [HNw.out, ← cellsOf_append, ← framesF_succ] at hown3
            have HO3 := Lib.hid hown3
            have HK3 : Hid (Keep Own.Zero w w3) := Lib.hid ((HKf.out.alloc _).grown hgr3 (fun k hk => .inr (own_block HOo.out k hk)))
            clear hown3 hgr3
            go_wp2_with fail
            go_roundg (m - (i + 1))
            case measure => rw [HMs.out]; omega
            case rel => exact ⟨i + 1, hlt, rfl, by go_num, HO3.out, HK3.out⟩
          · have hl2 : ¬ (j : Int) + (i : Int) = (n : Int) - 1 := by omega
            have HNw : Hid ([.int .u8 ((i : Int) + 1), .int .u8 (F 1), .int .u8 (F 2), .int .u8 (F 3), .int .u8 (F 4), .int .u8 (F 5), .int .u8 (F 6), .int .u8 (F 7)] = cellsOf [segF d.bs (d.at' + i) i]) := Lib.hid (cells_seg HSg.out (by unfold segF; rw [if_pos rfl, if_neg (by rw [← HN.out, ← HJ.out]; exact hlast)]; omega))
            have HKf := Lib.hid (HKo.out.trans HKx.out (fun k hk => hk.elim))
            have HOX : Hid (∀ o, (X.alloc o).ownsRow w.heap.size 30 8 (.slice Al i cl) i (cellsOf (framesF d.bs d.at' i))) := Lib.hid (fun o => own_keep HOo.out (HKx.out.alloc o) (fun _ hk => hk.elim))
            have HSz : Hid (w.heap.size ≤ X.heap.size) := Lib.hid (HKo.out.trans HKx.out (fun k hk => hk.elim)).size
            go_wp2_with (at_builtin; refine app_own rfl (.tmp 76) (.tmp 78) 23 rfl w.heap.size 30 (.agg #[.int .u8 0, .int .u8 0, .int .u8 0, .int .u8 0, .int .u8 0, .int .u8 0, .int .u8 0, .int .u8 0]) 8 8 under23 info30 rfl (by decide) (.slice Al i cl) i (cellsOf (framesF d.bs d.at' i)) rfl (HOX.out _) (some ⟨X.heap.size, 0, none⟩) 1 1 [.int .u8 ((i : Int) + 1), .int .u8 (F 1), .int .u8 (F 2), .int .u8 (F 3), .int .u8 (F 4), .int .u8 (F 5), .int .u8 (F 6), .int .u8 (F 7)] rfl rfl (fun h => by cases h) (Row.blk (Blk.at_ (by simp)) (fun i v hv => by simpa using hv)) (by simp [Value.oneCell']) (by unfold maxLen; omega) (by omega) (by have := HSz.out; simp; omega) ?_; intro v3 w3 hown3 hgr3)
            rw [HNw.out, ← cellsOf_append, ← framesF_succ] at hown3
            have HO3 := Lib.hid hown3
            have HK3 : Hid (Keep Own.Zero w w3) := Lib.hid ((HKf.out.alloc _).grown hgr3 (fun k hk => .inr (own_block HOo.out k hk)))
            clear hown3 hgr3
            go_wp2_with fail
            go_roundg (m - (i + 1))
            case measure => rw [HMs.out]; omega
            case rel => exact ⟨i + 1, hlt, rfl, by go_num, HO3.out, HK3.out⟩
    · have hie : m = i := by omega
      subst hie
      have HO9 : Hid (FrAt wo w.heap.size Al m cl (framesF d.bs d.at' m)) := Lib.hid HOo.out
      have k2 := HDo.out.blk.cell 2
      simp only [Doc.cells] at k2
      have q2 := HDo.out.blk.frozen 2
      have HDm := Lib.hid (HDo.out.many m)
      have HKm : Hid (Keep (Own.One g) w (wo.setCell ⟨g, 2, none⟩ (.int .i64 m))) := Lib.hid ((HKo.out.mono (S' := Own.One g) (fun _ h => h.elim)).set1 2 _)
      have HFm : Hid (FrAt (wo.setCell ⟨g, 2, none⟩ (.int .i64 m)) w.heap.size Al m cl (framesF d.bs d.at' m)) := Lib.hid (own_keep2 HO9.out ((Keep.refl (Own.One g) wo).set1 2 _) (fun i hi e => own_far HO9.out HDo.out.blk (by decide) (by rw [hi, e])))
      by_cases hmk2 : m < k
      · have h1 : (m : Int) < (k : Int) := by omega
        have h2 : ¬ (j : Int) + (m : Int) < (n : Int) := by omega
        clear hlt
        go_wp2_with fail
        go_ret
        exact ⟨Al, cl, rfl, Lib.hid ⟨HDm.out, HFm.out, HKm.out⟩⟩
      · have h1 : ¬ (m : Int) < (k : Int) := by omega
        clear hlt
        go_wp2_with fail
        go_ret
        exact ⟨Al, cl, rfl, Lib.hid ⟨HDm.out, HFm.out, HKm.out⟩⟩
end Go.Proofs.Ytdmomhbimhggiaa.Block
