/- same, lives: what the laws use beside. -/
import Derived.Test.YtdmomhbimhggiaaBlockG
import Derived.Lib.SlBytesConst
namespace Go.Proofs.Ytdmomhbimhggiaa.Block
open Go.RowKit Go.Proofs.Ytdmomhbimhggiaa.Own Go.Proofs.Ytdmomhbimhggiaa.Crc
theorem cellsOf_get : ∀ (l : List (Nat → Int)) (j k : Nat) (f : Nat → Int), l[j]? = some f → k < 8 → (cellsOf l)[j * 8 + k]? = some (.int .u8 (f k))
  | [], j, k, f, h, hk => by simp at h
  | x :: l, 0, k, f, h, hk => by
    obtain rfl : x = f := by simpa using h
    show (cells8 x ++ cellsOf l)[0 * 8 + k]? = _
    rw [Nat.zero_mul, Nat.zero_add, List.getElem?_append_left (by simpa [cells8] using hk)]
    rcases k with _ | _ | _ | _ | _ | _ | _ | _ | k
    all_goals first | rfl | omega
  | x :: l, j + 1, k, f, h, hk => by
    show (cells8 x ++ cellsOf l)[(j + 1) * 8 + k]? = _
    rw [List.getElem?_append_right (by simp [cells8]; omega)]
    have e : (j + 1) * 8 + k - (cells8 x).length = j * 8 + k := by simp [cells8]; omega
    rw [e]
    exact cellsOf_get l j k f (by simpa using h) hk
/-- Where an element of some frames lies. -/
theorem fr_at {w : World} {A : Option Addr} {l : List (Nat → Int)} (h : Row w A (cellsOf l)) {j : Nat} {f : Nat → Int} (hj : l[j]? = some f) :
    ∃ b o, A = some ⟨b, o, none⟩ ∧ b < w.heap.size ∧ ∀ k, k < 8 → w.cell? ⟨b, o + (j * 8 + k), none⟩ = some (.int .u8 (f k)) := by
  obtain ⟨b, o, rfl, hb, _⟩ := h (j * 8 + 0) _ (cellsOf_get l j 0 f hj (by omega))
  refine ⟨b, o, rfl, hb, fun k hk => ?_⟩
  obtain ⟨b', o', e, _, hc⟩ := h (j * 8 + k) _ (cellsOf_get l j k f hj hk)
  cases e
  exact hc
theorem size5 (w : World) : (sizeOf 5).run Try.prog w = .ok 1 w := by
  simp [go_sem]
/-- An array of bytes is as itself. -/
theorem run_equalIn_self (w : World) (d : Nat) (xs : List Int) (hx : xs.length = 8) :
    (Op.equalIn (d + 2) 30 (.agg (ints .u8 xs).toArray) (.agg (ints .u8 xs).toArray)).run Try.prog w = .ok true w := by
  have ht : Try.prog.underlying 30 = some (.array 8 5) := by kernel_rfl
  rw [Op.equalIn]
  simp only [Sem.run_bind, run_underlying ht, Result.andThen_ok, size5, Std.Legacy.Range.forIn_eq_forIn_range', Std.Legacy.Range.size, Nat.sub_zero, Nat.add_sub_cancel, Nat.div_one]
  have hl : ∀ i ∈ List.range' 0 8 1, i < 8 := fun i hi => by simpa using (List.mem_range'_1.1 hi).2
  generalize List.range' 0 8 1 = l at hl ⊢
  induction l with
  | nil => simp
  | cons i l ih =>
    have hi : i < 8 := hl i (by simp)
    have px : (part 5 (ints .u8 xs).toArray (i * 1)).run Try.prog w = .ok (.int .u8 (xs.getD i 0)) w := by
      simp [part, isAgg, run_underlying under5, ints, List.getD, List.getElem?_eq_getElem (show i < xs.length by omega)]
    have pe : (Op.equalIn (d + 1) 5 (.int .u8 (xs.getD i 0)) (.int .u8 (xs.getD i 0))).run Try.prog w = .ok true w := by
      rw [run_equalIn_int w d 5 .u8 .u8 _ _ under5]
      simp
    simp only [List.forIn_cons, Sem.run_bind, px, pe, Result.andThen_ok]
    simp only [Bool.not_true, Bool.false_eq_true, if_false, Sem.run_pure, Result.andThen_ok]
    exact ih fun j hj => hl j (by simp [hj])
theorem neq30 (x0 x1 x2 x3 x4 x5 x6 x7 : Int) (w : World) : Sem.run Try.prog (binOp .neq 30 (.agg #[.int .u8 x0, .int .u8 x1, .int .u8 x2, .int .u8 x3, .int .u8 x4, .int .u8 x5, .int .u8 x6, .int .u8 x7]) (.agg #[.int .u8 x0, .int .u8 x1, .int .u8 x2, .int .u8 x3, .int .u8 x4, .int .u8 x5, .int .u8 x6, .int .u8 x7])) w = .ok (.bool false) w := by
  rw [run_neq_struct]
  have h := run_equalIn_self w 9998 [x0, x1, x2, x3, x4, x5, x6, x7] rfl
  have e : (ints .u8 [x0, x1, x2, x3, x4, x5, x6, x7]).toArray = #[.int .u8 x0, .int .u8 x1, .int .u8 x2, .int .u8 x3, .int .u8 x4, .int .u8 x5, .int .u8 x6, .int .u8 x7] := rfl
  rw [e] at h
  rw [h]
  rfl
set_option maxRecDepth 100000 in
set_option maxHeartbeats 1000000 in
theorem same_true {w : World} {A B : Option Addr} {c d n : Nat} {l : List (Nat → Int)} (hA : Row w A (cellsOf l)) (hB : Row w B (cellsOf l)) (hn : n = l.length) (hl : n ≤ 1000000) :
    Calls Try.prog 12 #[.slice A n c, .slice B n d] w fun e w' => e = .returned (.bool true) ∧ ∃ m, w' = w.drewN m := by
  have HA := Lib.hid hA
  have HB := Lib.hid hB
  have HN := Lib.hid hn
  clear hA hB hn
  go_enter Try.func12, Try.ntmps12
  go_wp2_with fail
  go_loopg [5] n (fun k s5 wr => ∃ j m : Nat, j ≤ n ∧ k = n - j ∧ s5 = .int .i64 j ∧ wr = w.drewN m)
  case atStart => exact ⟨0, 0, Nat.zero_le _, rfl, rfl, rfl⟩
  case round =>
    obtain ⟨j, m, hj, hk, rfl, rfl⟩ := hrel
    have HM := Lib.hid hk
    clear hk
    by_cases hlt : j < n
    · have h1 : (j : Int) < (n : Int) := by omega
      have h0 : (0 : Int) ≤ (j : Int) := by omega
      obtain ⟨f, hf⟩ : ∃ f, l[j]? = some f := ⟨l[j]'(by rw [← HN.out]; exact hlt), List.getElem?_eq_getElem _⟩
      obtain ⟨b1, o1, rfl, lb1, z1⟩ := fr_at HA.out hf
      obtain ⟨b2, o2, rfl, lb2, z2⟩ := fr_at HB.out hf
      have x0 := z1 0 (by omega)
      have x1 := z1 1 (by omega)
      have x2 := z1 2 (by omega)
      have x3 := z1 3 (by omega)
      have x4 := z1 4 (by omega)
      have x5 := z1 5 (by omega)
      have x6 := z1 6 (by omega)
      have x7 := z1 7 (by omega)
      have y0 := z2 0 (by omega)
      have y1 := z2 1 (by omega)
      have y2 := z2 2 (by omega)
      have y3 := z2 3 (by omega)
      have y4 := z2 4 (by omega)
      have y5 := z2 5 (by omega)
      have y6 := z2 6 (by omega)
      have y7 := z2 7 (by omega)
      simp only [← Nat.add_assoc, Nat.add_zero] at x0 x1 x2 x3 x4 x5 x6 x7 y0 y1 y2 y3 y4 y5 y6 y7
      have hne := neq30 (f 0) (f 1) (f 2) (f 3) (f 4) (f 5) (f 6) (f 7)
      clear z1 z2
      go_wp2_with fail
      go_quiet (fail)
      go_wp2_with fail
      go_roundg (n - (j + 1))
      case measure => rw [HM.out]; omega
      case rel => exact ⟨j + 1, _, by omega, rfl, by go_num, rfl⟩
    · obtain rfl : j = n := by omega
      have hlt2 : ¬ (j : Int) < (j : Int) := by omega
      go_wp2_with fail
      go_ret
      exact ⟨rfl, _, rfl⟩
def eightB : List Int := [49, 50, 51, 52, 53, 54, 55, 56]
theorem lives_frames : cellsOf (framesF eightB 0 2) = ints .u8 [1, 49, 50, 51, 52, 53, 54, 55, 130, 56, 0, 0, 0, 0, 0, 0] := by
  unfold framesF cellsOf cells8 segF segs eightB ints
  rfl
set_option maxRecDepth 100000 in
set_option maxHeartbeats 1000000 in
theorem lives_is (w : World) : Calls Try.prog 8 #[] w fun e w' => e = .returned (.bool true) ∧ Hid (Keep Own.Zero w w') := by
  have kc := fun (w : World) (C : Array Value) (n c : Nat) => Lib.run_convert_bytes_const (P := Try.prog) w 22 5 C n c under22 under5
  go_enter Try.func8, Try.ntmps8
  go_wp2_with fail
  have hin : In (w.alloc (.cells #[.int .u8 49, .int .u8 50, .int .u8 51, .int .u8 52, .int .u8 53, .int .u8 54, .int .u8 55, .int .u8 56] 5 (8, 9))) (some ⟨w.heap.size, 0, none⟩) 8 eightB := ⟨fun i v hv => ⟨_, _, rfl, by simp, by
    rw [World.cell?_alloc_mark]
    simpa [ints, eightB] using hv⟩, (fun h => by cases h), by decide, by decide⟩
  refine (NewSender_ok hin (by decide) 8 rfl).mono ?_
  rintro e w1 ⟨g, A1, c1, rfl, hp1⟩
  have HS1 := Lib.hid hp1.out.1
  have HK1 : Hid (Keep Own.Zero w w1) := Lib.hid (((Keep.refl Own.Zero w).alloc _).trans hp1.out.2.1 (fun _ h => h.elim))
  have hg1 : w.heap.size < g := by have := hp1.out.2.2.1; simp at this; omega
  clear hp1 hin
  go_wp2_with fail
  refine (NewReceiver_ok w1 4 (by decide) (by decide)).mono ?_
  rintro e w2 ⟨g2, rfl, hp2⟩
  have HS2 := Lib.hid (HS1.out.keep hp2.out.2.1 id (fun _ _ => id))
  have HK2 : Hid (Keep Own.Zero w w2) := Lib.hid (HK1.out.trans hp2.out.2.1 (fun _ h => h.elim))
  clear hp2
  go_wp2_with fail
  refine (Begin_ok HS2.out rfl rfl 4 (by decide) (by decide) 2 (by simp [segs, eightB])).mono ?_
  rintro e w3 ⟨A3, c3, rfl, hp3⟩
  have HF3 : Hid (Row w3 A3 (cellsOf (framesF eightB 0 2))) := Lib.hid (by
    obtain ⟨A', c', he, hr, _⟩ := Row.own hp3.out.2.1
    simp only [Value.slice.injEq] at he
    rw [he.1]
    exact hr)
  have HK3 : Hid (Keep Own.Zero w w3) := Lib.hid (HK2.out.trans hp3.out.2.2 (fun k hk => .inr (by have e' : k = g := hk; omega)))
  clear hp3
  go_wp2_with fail
  refine (same_true (l := framesF eightB 0 2) (HF3.out.keep ((Keep.refl Own.Zero w3).alloc _) (fun _ _ _ => id)) (Row.blk (Blk.new w3 _ _) (fun i v hv => by rw [lives_frames] at hv; simpa [ints] using hv)) rfl (by decide)).mono ?_
  rintro e w4 ⟨rfl, m, rfl⟩
  go_wp2_with fail
  go_ret
  exact ⟨rfl, Lib.hid ((HK3.out.alloc _).drewN _)⟩
end Go.Proofs.Ytdmomhbimhggiaa.Block
