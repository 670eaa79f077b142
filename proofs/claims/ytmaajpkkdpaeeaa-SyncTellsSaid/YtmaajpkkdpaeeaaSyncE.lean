/- Two rows are the same; that sync lives. -/
import Derived.Test.YtmaajpkkdpaeeaaSyncD
namespace Go.Proofs.Ytmaajpkkdpaeeaa.Sync
open Go.RowKit Go.Proofs.Ytmaajpkkdpaeeaa.Own
set_option maxHeartbeats 2000000 in
theorem same_any {w : World} (A B : Option Addr) (ca cb : Nat) (xs ys : List Int) (hx : Row w A (ints .i64 xs)) (hy : Row w B (ints .i64 ys)) (lx : xs.length ≤ 1000000000000000) (b : Bool) (hb : b = decide (xs = ys)) :
    Calls Try.prog 16 #[.slice A xs.length ca, .slice B ys.length cb] w fun e w' => e = .returned (.bool b) ∧ Keep Zero w w' := by
  have HX := Lib.hid hx
  have HY := Lib.hid hy
  have HB := Lib.hid hb
  clear hx hy hb
  by_cases hl : xs.length = ys.length
  · have HL := Lib.hid hl
    obtain ⟨n, hn⟩ : ∃ n, n = xs.length := ⟨_, rfl⟩
    have HN := Lib.hid hn
    rw [← hl, ← hn]
    have ln : n ≤ 1000000000000000 := by omega
    clear hl hn lx
    go_enter Try.func16, Try.ntmps16
    go_wp2_with fail
    go_loopg [5] n (fun k i wr => ∃ j : Nat, j ≤ n ∧ k = n - j ∧ i = .int .i64 j ∧ Keep Zero w wr ∧ Hid (xs.take j = ys.take j))
    case atStart => exact ⟨0, Nat.zero_le _, rfl, rfl, Keep.refl _ _, rfl⟩
    case round =>
      obtain ⟨j, hj, hk, rfl, hkp, hT⟩ := hrel
      have HM := Lib.hid hk
      have HK := Lib.hid hkp
      clear hk hkp
      by_cases hlt : j < n
      · obtain ⟨x, hxj⟩ : ∃ x, xs[j]? = some x := ⟨xs[j]'(by rw [← HN.out]; exact hlt), List.getElem?_eq_getElem _⟩
        obtain ⟨y, hyj⟩ : ∃ y, ys[j]? = some y := ⟨ys[j]'(by rw [← HL.out, ← HN.out]; exact hlt), List.getElem?_eq_getElem _⟩
        obtain ⟨ba, oa, rfl, la, ga⟩ := HX.out j (.int .i64 x) (by rw [ints_get, hxj]; rfl)
        obtain ⟨bb, ob, rfl, lb, gb⟩ := HY.out j (.int .i64 y) (by rw [ints_get, hyj]; rfl)
        have ga' := (HK.out.cell (p := ⟨ba, oa + j, none⟩) la id).trans ga
        have gb' := (HK.out.cell (p := ⟨bb, ob + j, none⟩) lb id).trans gb
        have HXY := Lib.hid (And.intro hxj hyj)
        have h1 : (j : Int) < (n : Int) := by omega
        have h0 : (0 : Int) ≤ (j : Int) := by omega
        clear ga gb hxj hyj la lb
        by_cases e : x = y
        · have b1 : (x != y) = false := by simp [e]
          have E := Lib.hid e
          clear e
          go_wp2_with fail
          go_quiet (fail)
          go_wp2_with fail
          go_roundg (n - (j + 1))
          case measure => rw [HM.out]; omega
          case rel => exact ⟨j + 1, hlt, rfl, by go_num, HK.out.drewN _, by
            have h := hT.out
            refine Lib.hid ?_
            rw [List.take_add_one, List.take_add_one, h, HXY.out.1, HXY.out.2, E.out]⟩
        · have b1 : (x != y) = true := by simp [e]
          have E : Hid (b = false) := by
            refine Lib.hid (HB.out.trans (decide_eq_false (fun h => e ?_)))
            have := HXY.out.1
            rw [h, HXY.out.2] at this
            exact (Option.some.inj this).symm
          clear e
          go_wp2_with fail
          go_quiet (fail)
          go_wp2_with fail
          go_ret
          rw [E.out]
          exact ⟨rfl, HK.out.drewN _⟩
      · have E : Hid (b = true) := by
          refine Lib.hid (HB.out.trans (decide_eq_true ?_))
          have h := hT.out
          rw [List.take_of_length_le (by rw [← HN.out]; omega), List.take_of_length_le (by rw [← HL.out, ← HN.out]; omega)] at h
          exact h
        have h1 : ¬ (j : Int) < (n : Int) := by omega
        clear hlt
        go_wp2_with fail
        go_ret
        rw [E.out]
        exact ⟨rfl, HK.out⟩
  · have b1 : ((xs.length : Int) != (ys.length : Int)) = true := by simp; omega
    have E : Hid (b = false) := Lib.hid (HB.out.trans (decide_eq_false (fun h => hl (by rw [h]))))
    clear hl
    go_enter Try.func16, Try.ntmps16
    go_wp2
    go_ret
    rw [E.out]
    exact ⟨rfl, Keep.refl _ _⟩
theorem lives_any (w : World) : Calls Try.prog 11 #[] w fun e w' => e = .returned (.bool true) ∧ Hid (Keep Zero w w') := by
  go_enter Try.func11, Try.ntmps11
  go_wp2_with fail
  refine (NewP_ok 3 2 (by omega) (by omega) (by decide) _).mono ?_
  rintro e w1 ⟨g, rfl, hd, hg, hk⟩
  have HD := Lib.hid hd
  have HK := Lib.hid hk
  clear hd hk
  go_wp2_with fail
  refine (NewC_ok 2 5 (by decide) (by omega) _).mono ?_
  rintro e w2 ⟨f, rfl, hc, hf, hk⟩
  have HC := Lib.hid hc
  have HD2 := Lib.hid (HD.out.keep hk id)
  have HK2 := Lib.hid (HK.out.trans hk (fun i hi => hi.elim))
  have gf : g < f := Nat.lt_of_lt_of_le HD.out.lt hf
  clear hc hk HD HK
  go_wp2_with fail
  refine (Start_any HD2.out (by decide) true).mono ?_
  rintro e w3 ⟨rfl, hd3, hk3⟩
  have HD3 : Hid (IsPr w3 g ⟨3, 2, true, 3, 1⟩) := Lib.hid hd3
  have HC3 := Lib.hid (HC.out.keep hk3 (fun e => by unfold Own.One at e; omega))
  have HK3 := Lib.hid (HK2.out.trans hk3 (fun i hi => .inr (by unfold Own.One at hi; omega)))
  clear hd3 hk3 HD2 HC HK2
  go_wp2_with fail
  refine (Tick_on HD3.out rfl (by unfold Pr.ok; decide) 9 (by omega) 9 (by decide)).mono ?_
  rintro e w4 ⟨v, rfl, ⟨A, c, rfl, hr, hc, ha⟩, hd4, hk4⟩
  have HD4 := Lib.hid hd4
  have HR := Lib.hid hr
  have HC4 := Lib.hid (HC3.out.keep hk4 (fun e => by unfold Own.One at e; omega))
  have HK4 := Lib.hid (HK3.out.trans hk4 (fun i hi => .inr (by unfold Own.One at hi; omega)))
  clear hd4 hr hk4 ha HC3 HD3 HK3
  go_wp2_with fail
  have hb : Blk (w4.alloc (.cells #[.int .i64 1, .int .i64 2, .int .i64 1] 3)) w4.heap.size #[.int .i64 1, .int .i64 2, .int .i64 1] 3 := Blk.new _ _ _
  have HK5 := Lib.hid (HK4.out.alloc (.cells #[.int .i64 1, .int .i64 2, .int .i64 1] 3))
  have HC5 : Hid (IsCo 68 (w4.alloc (.cells #[.int .i64 1, .int .i64 2, .int .i64 1] 3)) f ⟨2, 5, 0, 0, 0, 0⟩) := Lib.hid (HC4.out.alloc _)
  have e9 : (tt 3 2 9 3 1).1 = [1, 2, 1] := by decide
  refine (same_any A (some ⟨w4.heap.size, 0, none⟩) c 3 (tt 3 2 9 3 1).1 [1, 2, 1] (HR.out.keep ((Keep.refl Zero w4).alloc _) (fun _ _ _ => id)) (Row.blk hb (fun i v hv => by simpa [ints] using hv)) (by rw [e9]; decide) true (by rw [e9]; decide)).mono ?_
  rintro e w6 ⟨rfl, hk6⟩
  have HK6 := Lib.hid (HK5.out.trans hk6 (fun i hi => hi.elim))
  have HC6 := Lib.hid (HC5.out.keep hk6 id)
  clear hk6 hb e9 HR hc HD4
  go_wp2_with fail
  refine (Take_yes HC6.out (by decide) (by decide) (by decide) (by decide) (by decide) 1 (by decide)).mono ?_
  rintro e w7 ⟨⟨r, rfl, hr⟩, hc7, hk7⟩
  obtain rfl : r = 0 := hr.out
  have HC7 : Hid (IsCo 68 w7 f ⟨2, 5, 2, 1, 0, 0⟩) := Lib.hid hc7
  have HK7 := Lib.hid (HK6.out.trans hk7 (fun i hi => .inr (by have := HK4.out.size; unfold Own.One at hi; omega)))
  clear hc7 hk7 hr
  go_wp2_with fail
  refine (Open_keep HC7.out true rfl).mono ?_
  rintro e w8 ⟨rfl, hk8⟩
  have HC8 := Lib.hid (HC7.out.keep hk8 id)
  have HK8 := Lib.hid (HK7.out.trans hk8 (fun i hi => hi.elim))
  clear hk8
  go_wp2_with fail
  refine (Cycle_any HC8.out).mono ?_
  rintro e w9 ⟨rfl, rfl⟩
  go_wp2
  go_ret
  exact ⟨rfl, HK8⟩
end Go.Proofs.Ytmaajpkkdpaeeaa.Sync
