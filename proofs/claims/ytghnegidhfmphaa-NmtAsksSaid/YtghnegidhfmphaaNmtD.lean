/- That nmt lives. -/
import Derived.Test.YtghnegidhfmphaaNmtC
namespace Go.Proofs.Ytghnegidhfmphaa.Nmt
open Go.RowKit Go.Proofs.Ytghnegidhfmphaa.Own
theorem under27 : Try.prog.underlying 27 = some (.slice 5) := by kernel_rfl
theorem under5 : Try.prog.underlying 5 = some (.int .u8) := by kernel_rfl
theorem under9 : Try.prog.underlying 9 = some .string := by kernel_rfl
theorem Step_yes {w : World} {g : Nat} {d : Nd} (h : IsNd w g d) (d' : Nd) (hs : d.steps = true) (hd : d.step = d') : Calls Try.prog 9 #[.pointer (some ⟨g, 0, none⟩)] w fun e w' =>
    ∃ A c, e = .returned (.tuple #[.slice A 1 c, .bool true]) ∧ Row w' A (ints .u8 [0]) ∧ IsNd w' g d' ∧ Keep (One g) w w' ∧ ∀ a, A = some a → w.heap.size ≤ a.block := by
  refine (Step_any h).mono ?_
  rintro e w' ⟨A, c, he, hr, hi, hk, ha⟩
  rw [hs] at he hr
  subst hd
  exact ⟨A, c, he, hr, hi, hk, ha⟩
theorem Step_hid {w : World} {g : Nat} {d : Nd} (h : IsNd w g d) : Calls Try.prog 9 #[.pointer (some ⟨g, 0, none⟩)] w fun e w' =>
    ∃ A n c r, e = .returned (.tuple #[.slice A n c, .bool r]) ∧ Hid (r = d.steps ∧ n = (if d.steps then [(0 : Int)] else []).length ∧ Row w' A (ints .u8 (if d.steps then [0] else [])) ∧ IsNd w' g d.step ∧ Keep (One g) w w') := by
  refine (Step_any h).mono ?_
  rintro e w' ⟨A, c, he, hr, hi, hk, _⟩
  exact ⟨A, _, c, _, he, rfl, rfl, hr, hi, hk⟩
theorem Command_yes (c n : Int) (w : World) (h : Can c n) : Calls Try.prog 15 #[.int .i64 c, .int .i64 n] w fun e w' =>
    ∃ A m, e = .returned (.tuple #[.slice A 2 m, .int .i64 0]) ∧ Row w' A (ints .u8 [c, n]) ∧ 2 ≤ m ∧ (∀ a, A = some a → w.heap.size ≤ a.block) ∧ Keep Zero w w' := by
  refine (Command_any c n w).mono ?_
  rintro e w' ⟨A, m, he, hr, hm, ha, hk⟩
  rw [if_pos h] at he hr hm
  rw [if_pos h] at he
  exact ⟨A, m, he, hr, hm, ha, hk⟩
theorem str_0 : str [0] = ⟨#[0]⟩ := by decide
theorem lives_any (w : World) : Calls Try.prog 12 #[] w fun e w' => e = .returned (.bool true) ∧ Keep Zero w w' := by
  go_enter Try.func12, Try.ntmps12
  go_wp2_with fail
  refine (New_ok 5 (by omega) (by omega) _).mono ?_
  rintro e w1 ⟨g, rfl, hd, hg, hk⟩
  have HD := Lib.hid hd
  have HK := Lib.hid hk
  clear hd hk
  go_wp2_with fail
  refine (Step_yes HD.out ⟨5, 5, 127, 0, 0⟩ rfl rfl).mono ?_
  rintro e w2 ⟨A, c, rfl, hr, hd2, hk2, _⟩
  have HR := Lib.hid hr
  have HD2 := Lib.hid hd2
  have HK2 := Lib.hid hk2
  clear hr hd2 hk2
  go_wp2_with fail
  refine (Command_yes 1 5 w2 (by decide)).mono ?_
  rintro e w3 ⟨B, m, rfl, hr3, hm, hb, hk3⟩
  have hs := run_str (P := Try.prog) (c := c) under27 under5 under9 (HR.out.keep hk3 (fun _ _ _ => id)) 1 rfl
  rw [str_0] at hs
  have HR3 := Lib.hid hr3
  have HK3 := Lib.hid hk3
  have HB := Lib.hid hb
  clear hr3 hk3 hm hb
  go_wp2_with fail
  refine (Take_any (HD2.out.keep HK3.out id) B 2 m [1, 5] ⟨rfl, HR3.out, by simp⟩ (fun a ha _ e => ?_)).mono ?_
  · have := HB.out a ha
    have := HD2.out.lt
    omega
  rintro e w4 ⟨rfl, hd4, hk4⟩
  have HD4 := Lib.hid hd4
  have HK4 := Lib.hid hk4
  clear hd4 hk4 hs
  go_wp2_with fail
  refine (State_any HD4.out).mono ?_
  rintro e w5 ⟨rfl, rfl⟩
  go_wp2
  go_ret
  refine ⟨rfl, ?_⟩
  exact ((HK.out.trans HK2.out (fun i hi => .inr (by cases hi; exact hg))).trans HK3.out (fun i hi => hi.elim)).trans HK4.out (fun i hi => .inr (by cases hi; exact hg))
theorem lives_hid (w : World) : Calls Try.prog 12 #[] w fun e w' => e = .returned (.bool true) ∧ Hid (Keep Zero w w') := lives_any w
theorem Command_no (c n : Int) (w : World) (h : ¬ Can c n) : Calls Try.prog 15 #[.int .i64 c, .int .i64 n] w fun e w' =>
    ∃ A m, e = .returned (.tuple #[.slice A 0 m, .int .i64 1]) ∧ Keep Zero w w' := by
  refine (Command_any c n w).mono ?_
  rintro e w' ⟨A, m, he, hr, hm, ha, hk⟩
  rw [if_neg h] at he hr hm
  rw [if_neg h] at he
  exact ⟨A, m, he, hk⟩

end Go.Proofs.Ytghnegidhfmphaa.Nmt
