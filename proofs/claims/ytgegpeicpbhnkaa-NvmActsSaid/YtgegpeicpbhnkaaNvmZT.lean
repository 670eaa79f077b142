/- That both chips are the same, page by page. -/
import Derived.Test.YtgegpeicpbhnkaaNvmZS
import Derived.Lib.SlBytesConst
import Derived.Deep.Cut
namespace Go.Proofs.Ytgegpeicpbhnkaa.Nvm
open Go.RowKit Go.Proofs.Ytgegpeicpbhnkaa.Own Go.Proofs.Ytgegpeicpbhnkaa.Crc
theorem size5 (w : World) : (sizeOf 5).run Try.prog w = .ok 1 w := by
  simp [go_sem]
/-- An array of bytes is as itself. -/
theorem run_equalIn_self (w : World) (d : Nat) (xs : List Int) (hx : xs.length = 8) :
    (Op.equalIn (d + 2) 44 (.agg (ints .u8 xs).toArray) (.agg (ints .u8 xs).toArray)).run Try.prog w = .ok true w := by
  have ht : Try.prog.underlying 44 = some (.array 8 5) := by kernel_rfl
  rw [Op.equalIn]
  simp only [Sem.run_bind, run_underlying ht, Result.andThen_ok, size5, Std.Legacy.Range.forIn_eq_forIn_range', Std.Legacy.Range.size, Nat.sub_zero, Nat.add_sub_cancel, Nat.div_one]
  have hl : ∀ i ∈ List.range' 0 8 1, i < 8 := fun i hi => by simpa using (List.mem_range'_1.1 hi).2
  generalize List.range' 0 8 1 = l at hl ⊢
  induction l with
  | nil => simp
  | cons i l ih =>
    have hi : i < 8 := hl i (by simp)
    have px : (part 5 (ints .u8 xs).toArray (i * 1)).run Try.prog w = .ok (.int .u8 (xs.getD i 0)) w := by
      simp [part, isAgg, run_underlying under5, ints, List.getD, List.getElem?_eq_getElem (show i < xs.length by omega)]
    have pe : (Op.equalIn (d + 1) 5 (.int .u8 (xs.getD i 0)) (.int .u8 (xs.getD i 0))).run Try.prog w = .ok true w := by
      rw [run_equalIn_int w d 5 .u8 .u8 _ _ under5]
      simp
    simp only [List.forIn_cons, Sem.run_bind, px, pe, Result.andThen_ok]
    simp only [Bool.not_true, Bool.false_eq_true, if_false, Sem.run_pure, Result.andThen_ok]
    exact ih fun j hj => hl j (by simp [hj])
theorem neq44 (x0 x1 x2 x3 x4 x5 x6 x7 : Int) (w : World) : Sem.run Try.prog (binOp .neq 44 (.agg #[.int .u8 x0, .int .u8 x1, .int .u8 x2, .int .u8 x3, .int .u8 x4, .int .u8 x5, .int .u8 x6, .int .u8 x7]) (.agg #[.int .u8 x0, .int .u8 x1, .int .u8 x2, .int .u8 x3, .int .u8 x4, .int .u8 x5, .int .u8 x6, .int .u8 x7])) w = .ok (.bool false) w := by
  rw [run_neq_struct]
  have h := run_equalIn_self w 9998 [x0, x1, x2, x3, x4, x5, x6, x7] rfl
  have e : (ints .u8 [x0, x1, x2, x3, x4, x5, x6, x7]).toArray = #[.int .u8 x0, .int .u8 x1, .int .u8 x2, .int .u8 x3, .int .u8 x4, .int .u8 x5, .int .u8 x6, .int .u8 x7] := rfl
  rw [e] at h
  rw [h]
  rfl

set_option maxRecDepth 100000 in
set_option maxHeartbeats 8000000 in
theorem same_any {w wr : World} {g p d q : Nat} {c : Ch} (h : SD w wr g p d q c) :
    Calls Try.prog 19 #[.pointer (some ⟨g, 0, none⟩), .pointer (some ⟨d, 0, none⟩)] wr fun e w' => e = .returned (.bool true) ∧ Hid (SD w w' g p d q c) := by
  obtain ⟨n, hn⟩ : ∃ n, n = c.n := ⟨_, rfl⟩
  have n0 : 4 ≤ n := by rw [hn]; exact h.ch.n0
  have n1 : n ≤ 32768 := by rw [hn]; exact h.ch.n1
  have HN := Lib.hid hn
  have H := Lib.hid (h.zero ((Keep.refl Zero wr).drew))
  have HCl : Hid (∀ w', SD w w' g p d q c → w'.cell? ⟨d, 0, none⟩ = some (.slice (some ⟨q, 0, none⟩) n n) ∧ w'.cell? ⟨d, 2, none⟩ = some (.bool c.dead)) := Lib.hid (fun w' hs => by
    rw [hn]
    exact ⟨hs.dc.chip.cell 0, hs.dc.chip.cell 2⟩)
  have hdt : (n : Int).tdiv 2 = (n : Int) / 2 := Int.tdiv_eq_ediv_of_nonneg (by omega)
  obtain ⟨m, hm⟩ : ∃ m : Nat, (n : Int) / 2 = m := ⟨n / 2, by omega⟩
  have hmb : m ≤ 20000 := by omega
  have hrm : (8 * ((c.n : Int) / 2 - 1)) = 8 * ((m : Int) - 1) := by rw [← hn, hm]
  have HRm := Lib.hid hrm
  obtain ⟨dead, hdd⟩ : ∃ dead, dead = c.dead := ⟨_, rfl⟩
  have HDd := Lib.hid hdd
  rw [← hdd] at HCl
  have hb1 : (dead != dead) = false := by simp
  have hb2 : (8 * ((m : Int) - 1) != IntKind.i64.wrap (8 * IntKind.i64.wrap (IntKind.i64.wrap (m : Int) - 1))) = false := by
    rw [IntWalk.i64_in (m : Int) (by omega), IntWalk.i64_in ((m : Int) - 1) (by omega), IntWalk.i64_in (8 * ((m : Int) - 1)) (by omega)]
    simp
  clear h hn hrm hdd
  go_enter Try.func19, Try.ntmps19
  go_wp2_with fail
  go_region_held3 (fun w' => w'.cell? ⟨d, 0, none⟩ = some (.slice (some ⟨q, 0, none⟩) n n) ∧ w'.cell? ⟨d, 2, none⟩ = some (.bool dead)) (first | exact HCl.out _ H.out | (go_keep; done)) (first | (go_at_call 30; refine (Pages_any H.out.ch).mono ?_; rintro e w' ⟨rfl, rfl⟩; rw [← HN.out]) | (go_at_call 14; refine (Dead_any H.out.ch).mono ?_; rintro e w' ⟨rfl, rfl⟩; rw [← HDd.out]) | (go_at_call 11; refine (Room_any H.out.ch).mono ?_; rintro e w' ⟨rfl, rfl⟩; rw [HRm.out]))
  go_wp2_with fail
  go_loopg [5] (n + 2) (fun k s5 wx => ∃ (j : Nat) (x : Int), j ≤ n + 2 ∧ k = n + 2 - j ∧ s5 = .int .i64 x ∧ Hid (x = (j : Int) - 1 ∧ SD w wx g p d q c))
  case atStart => exact ⟨0, -1, by omega, rfl, rfl, by simp, H.out⟩
  case round =>
    obtain ⟨j, x, hj, hk, rfl, HC⟩ := hrel
    have HM := Lib.hid hk
    clear hk
    obtain ⟨wo, hwo⟩ : ∃ x, x = wr := ⟨_, rfl⟩
    subst hwo
    have hxb : -1 ≤ x ∧ x ≤ 40000 := by have := HC.out.1; omega
    obtain ⟨hx0, hx1⟩ := hxb
    have c0 : ∀ o, (wo.alloc o).cell? ⟨d, 0, none⟩ = some (.slice (some ⟨q, 0, none⟩) n n) := fun o => (HCl.out _ (HC.out.2.zero ((Keep.refl Zero wo).alloc o))).1
    have c0w : wo.cell? ⟨d, 0, none⟩ = some (.slice (some ⟨q, 0, none⟩) n n) := (HCl.out _ HC.out.2).1
    have ld : d < wo.heap.size := HC.out.2.dc.chip.lt
    have lq : q < wo.heap.size := HC.out.2.dc.pages.lt
    by_cases hlt : x ≤ (n : Int)
    · have hj1 : j + 1 ≤ n + 2 := by have := HC.out.1; omega
      by_cases hin : 0 ≤ x ∧ x < (n : Int)
      · obtain ⟨k, rfl⟩ : ∃ k : Nat, x = k := ⟨x.toNat, by omega⟩
        have hkn : k < n := by omega
        have hki : (k : Int) < (n : Int) := by omega
        have hk0 : (0 : Int) ≤ (k : Int) := by omega
        obtain ⟨F, hF⟩ : ∃ F, F = readF c k := ⟨_, rfl⟩
        have hp : ∀ r, r < 8 → ∀ o, (wo.alloc o).cell? ⟨q, k * 8 + r, none⟩ = some (.int .u8 (F r)) := fun r hr o => by
          have e : F r = c.P (k * 8 + r) := by
            rw [hF]
            unfold readF
            rw [if_pos ⟨hk0, by rw [← HN.out]; exact hki⟩, Int.toNat_natCast]
          rw [e]
          exact (HC.out.2.dc.pages.keep ((Keep.refl Own.Zero wo).alloc o) id).cell _ (by rw [show (c.on q).n = c.n from rfl, ← HN.out]; omega)
        have p0 := hp 0 (by omega)
        have p1 := hp 1 (by omega)
        have p2 := hp 2 (by omega)
        have p3 := hp 3 (by omega)
        have p4 := hp 4 (by omega)
        have p5 := hp 5 (by omega)
        have p6 := hp 6 (by omega)
        have p7 := hp 7 (by omega)
        simp only [Nat.add_zero] at p0
        have HFf := Lib.hid hF
        have hne : ∀ w, Sem.run Try.prog (binOp .neq 44 (.agg #[.int .u8 (F 0), .int .u8 (F 1), .int .u8 (F 2), .int .u8 (F 3), .int .u8 (F 4), .int .u8 (F 5), .int .u8 (F 6), .int .u8 (F 7)]) (.agg #[.int .u8 (F 0), .int .u8 (F 1), .int .u8 (F 2), .int .u8 (F 3), .int .u8 (F 4), .int .u8 (F 5), .int .u8 (F 6), .int .u8 (F 7)])) w = .ok (.bool false) w := fun w => neq44 _ _ _ _ _ _ _ _ w
        clear hp hF hin
        go_upto_region 9 with fail
        obtain ⟨W, hW⟩ : ∃ W, W = wo.alloc (.cells #[.int .u8 (F 0), .int .u8 (F 1), .int .u8 (F 2), .int .u8 (F 3), .int .u8 (F 4), .int .u8 (F 5), .int .u8 (F 6), .int .u8 (F 7)] 44) := ⟨_, rfl⟩
        have HBF : Hid (Blk W wo.heap.size (pageC F) 44) := Lib.hid (by
          rw [hW]
          exact Blk.new _ _ _)
        have HKW : Hid (Keep Zero wo W) := Lib.hid (by
          rw [hW]
          exact (Keep.refl _ _).alloc _)
        have HCell : Hid (∀ w', Blk w' wo.heap.size (pageC F) 44 → w'.cell? ⟨wo.heap.size, 0, none⟩ = some (.int .u8 (F 0)) ∧ w'.cell? ⟨wo.heap.size, 1, none⟩ = some (.int .u8 (F 1)) ∧ w'.cell? ⟨wo.heap.size, 2, none⟩ = some (.int .u8 (F 2)) ∧ w'.cell? ⟨wo.heap.size, 3, none⟩ = some (.int .u8 (F 3)) ∧ w'.cell? ⟨wo.heap.size, 4, none⟩ = some (.int .u8 (F 4)) ∧ w'.cell? ⟨wo.heap.size, 5, none⟩ = some (.int .u8 (F 5)) ∧ w'.cell? ⟨wo.heap.size, 6, none⟩ = some (.int .u8 (F 6)) ∧ w'.cell? ⟨wo.heap.size, 7, none⟩ = some (.int .u8 (F 7))) := Lib.hid (fun w' hb => ⟨hb.cell 0, hb.cell 1, hb.cell 2, hb.cell 3, hb.cell 4, hb.cell 5, hb.cell 6, hb.cell 7⟩)
        have HSW := Lib.hid ((HC.out.2.zero HKW.out).zero ((Keep.refl Zero W).drew))
        have HFv : Hid (pageV (readF c (k : Int)) = .agg #[.int .u8 (F 0), .int .u8 (F 1), .int .u8 (F 2), .int .u8 (F 3), .int .u8 (F 4), .int .u8 (F 5), .int .u8 (F 6), .int .u8 (F 7)]) := Lib.hid (by rw [← HFf.out]; rfl)
        rw [← hW]
        clear hW p0 p1 p2 p3 p4 p5 p6 p7
        go_region_held3 (fun w' => w'.cell? ⟨wo.heap.size, 0, none⟩ = some (.int .u8 (F 0)) ∧ w'.cell? ⟨wo.heap.size, 1, none⟩ = some (.int .u8 (F 1)) ∧ w'.cell? ⟨wo.heap.size, 2, none⟩ = some (.int .u8 (F 2)) ∧ w'.cell? ⟨wo.heap.size, 3, none⟩ = some (.int .u8 (F 3)) ∧ w'.cell? ⟨wo.heap.size, 4, none⟩ = some (.int .u8 (F 4)) ∧ w'.cell? ⟨wo.heap.size, 5, none⟩ = some (.int .u8 (F 5)) ∧ w'.cell? ⟨wo.heap.size, 6, none⟩ = some (.int .u8 (F 6)) ∧ w'.cell? ⟨wo.heap.size, 7, none⟩ = some (.int .u8 (F 7))) (first | exact HCell.out _ (HBF.out.drew.keep HK6.out id) | exact HCell.out _ HBF.out.drew | exact HCell.out _ HBF.out | (go_keep; done)) (first | (go_at_call 31; refine (Read_any HSW.out.ch (k : Int)).mono ?_; rintro e w6 ⟨rfl, HK6⟩; rw [HFv.out]))
        all_goals
          have HS6 := Lib.hid (HSW.out.zero HK6.out)
          go_wp2_with fail
          go_roundg (n + 2 - (j + 1))
          case measure => rw [HM.out]; omega
          case rel => exact ⟨j + 1, _, hj1, rfl, by go_num, Lib.hid ⟨by have := HC.out.1; omega, HS6.out⟩⟩
      · have HNot : Hid (¬ (0 ≤ x ∧ x < (c.n : Int))) := Lib.hid (by rw [← HN.out]; exact hin)
        have hne : ∀ w, Sem.run Try.prog (binOp .neq 44 (.agg #[.int .u8 0, .int .u8 0, .int .u8 0, .int .u8 0, .int .u8 0, .int .u8 0, .int .u8 0, .int .u8 0]) (.agg #[.int .u8 0, .int .u8 0, .int .u8 0, .int .u8 0, .int .u8 0, .int .u8 0, .int .u8 0, .int .u8 0])) w = .ok (.bool false) w := fun w => neq44 _ _ _ _ _ _ _ _ w
        have hor : ¬ 0 ≤ x ∨ (0 ≤ x ∧ ¬ x < (n : Int)) := by omega
        clear hin
        rcases hor with ha | ⟨ha, hb⟩
        all_goals
          go_upto_region 9 with fail
          obtain ⟨W, hW⟩ : ∃ W, W = wo.alloc (.cells #[.int .u8 0, .int .u8 0, .int .u8 0, .int .u8 0, .int .u8 0, .int .u8 0, .int .u8 0, .int .u8 0] 44) := ⟨_, rfl⟩
          have HBF : Hid (Blk W wo.heap.size (pageC (fun _ => 0)) 44) := Lib.hid (by
            rw [hW]
            exact Blk.new _ _ _)
          have HKW : Hid (Keep Zero wo W) := Lib.hid (by
            rw [hW]
            exact (Keep.refl _ _).alloc _)
          have HCell : Hid (∀ w', Blk w' wo.heap.size (pageC (fun _ => 0)) 44 → w'.cell? ⟨wo.heap.size, 0, none⟩ = some (.int .u8 0) ∧ w'.cell? ⟨wo.heap.size, 1, none⟩ = some (.int .u8 0) ∧ w'.cell? ⟨wo.heap.size, 2, none⟩ = some (.int .u8 0) ∧ w'.cell? ⟨wo.heap.size, 3, none⟩ = some (.int .u8 0) ∧ w'.cell? ⟨wo.heap.size, 4, none⟩ = some (.int .u8 0) ∧ w'.cell? ⟨wo.heap.size, 5, none⟩ = some (.int .u8 0) ∧ w'.cell? ⟨wo.heap.size, 6, none⟩ = some (.int .u8 0) ∧ w'.cell? ⟨wo.heap.size, 7, none⟩ = some (.int .u8 0)) := Lib.hid (fun w' hb => ⟨hb.cell 0, hb.cell 1, hb.cell 2, hb.cell 3, hb.cell 4, hb.cell 5, hb.cell 6, hb.cell 7⟩)
          have HSW := Lib.hid ((HC.out.2.zero HKW.out).zero ((Keep.refl Zero W).drew))
          have HFv : Hid (pageV (readF c x) = .agg #[.int .u8 0, .int .u8 0, .int .u8 0, .int .u8 0, .int .u8 0, .int .u8 0, .int .u8 0, .int .u8 0]) := Lib.hid (by unfold pageV; simp only [readF, if_neg HNot.out])
          rw [← hW]
          clear hW
          go_region_held3 (fun w' => w'.cell? ⟨wo.heap.size, 0, none⟩ = some (.int .u8 0) ∧ w'.cell? ⟨wo.heap.size, 1, none⟩ = some (.int .u8 0) ∧ w'.cell? ⟨wo.heap.size, 2, none⟩ = some (.int .u8 0) ∧ w'.cell? ⟨wo.heap.size, 3, none⟩ = some (.int .u8 0) ∧ w'.cell? ⟨wo.heap.size, 4, none⟩ = some (.int .u8 0) ∧ w'.cell? ⟨wo.heap.size, 5, none⟩ = some (.int .u8 0) ∧ w'.cell? ⟨wo.heap.size, 6, none⟩ = some (.int .u8 0) ∧ w'.cell? ⟨wo.heap.size, 7, none⟩ = some (.int .u8 0)) (first | exact HCell.out _ (HBF.out.drew.keep HK6.out id) | exact HCell.out _ HBF.out.drew | exact HCell.out _ HBF.out | (go_keep; done)) (first | (go_at_call 31; refine (Read_any HSW.out.ch x).mono ?_; rintro e w6 ⟨rfl, HK6⟩; rw [HFv.out]))
          all_goals
            have HS6 := Lib.hid (HSW.out.zero HK6.out)
            go_wp2_with fail
            go_roundg (n + 2 - (j + 1))
            case measure => rw [HM.out]; omega
            case rel => exact ⟨j + 1, _, hj1, rfl, by go_num, Lib.hid ⟨by have := HC.out.1; omega, HS6.out⟩⟩
    · go_wp2_with fail
      go_ret
      exact ⟨rfl, HC.out.2⟩
end Go.Proofs.Ytgegpeicpbhnkaa.Nvm
