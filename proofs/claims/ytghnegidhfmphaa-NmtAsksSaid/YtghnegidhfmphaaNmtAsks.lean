/- NmtAsks's walk. -/
import Derived.Test.YtghnegidhfmphaaNmtF
import Derived.Test.YtghnegidhfmphaaNmtD
import Derived.Deep.RegionHeld3
namespace Go.Proofs.Ytghnegidhfmphaa.Nmt
open Go.RowKit Go.Proofs.Ytghnegidhfmphaa.Own
def alB (s x : Int) : Bool := decide ((0 ≤ x ∧ x ≤ 5) ∧ (s = 5 ∨ (s = 127 ∧ x ≠ 0) ∨ (s = 4 ∧ 4 ≤ x)))
set_option maxHeartbeats 4000000 in
theorem Allows_any (s x : Int) (w : World) : Calls Try.prog 22 #[.int .i64 s, .int .i64 x] w fun e w' => e = .returned (.bool (alB s x)) ∧ w = w' := by
  by_cases h0 : x < 0
  · have b0 : decide (x < 0) = true := decide_eq_true h0
    have e : alB s x = false := by unfold alB; simp; omega
    have E := Lib.hid e
    clear h0 e
    go_enter Try.func22, Try.ntmps22
    go_wp2
    go_ret
    rw [E.out]
    exact ⟨rfl, rfl⟩
  by_cases h1 : 5 < x
  · have b0 : decide (x < 0) = false := decide_eq_false h0
    have b1 : decide (5 < x) = true := decide_eq_true h1
    have e : alB s x = false := by unfold alB; simp; omega
    have E := Lib.hid e
    clear h0 h1 e
    go_enter Try.func22, Try.ntmps22
    go_wp2
    go_ret
    rw [E.out]
    exact ⟨rfl, rfl⟩
  have b0 : decide (x < 0) = false := decide_eq_false h0
  have b1 : decide (5 < x) = false := decide_eq_false h1
  by_cases h2 : s = 5
  · have b2 : (s == 5) = true := by simp [h2]
    have e : alB s x = true := by unfold alB; simp; omega
    have E := Lib.hid e
    clear h0 h1 h2 e
    go_enter Try.func22, Try.ntmps22
    go_wp2
    go_ret
    rw [E.out]
    exact ⟨rfl, rfl⟩
  have b2 : (s == 5) = false := by simp [h2]
  by_cases h3 : s = 127
  · have b3 : (s == 127) = true := by simp [h3]
    have b4 : (s == 4) = false := by simp [h3]
    by_cases h5 : x = 0
    · have b5 : (x != 0) = false := by simp [h5]
      have b6 : decide (0 < x) = false := by simp; omega
      have e : alB s x = false := by unfold alB; simp; omega
      have E := Lib.hid e
      clear h0 h1 h2 h3 h5 e
      go_enter Try.func22, Try.ntmps22
      go_wp2
      go_ret
      rw [E.out]
      exact ⟨rfl, rfl⟩
    · have b5 : (x != 0) = true := by simp [h5]
      have b6 : decide (0 < x) = true := by simp; omega
      have e : alB s x = true := by unfold alB; simp; omega
      have E := Lib.hid e
      clear h0 h1 h2 h3 h5 e
      go_enter Try.func22, Try.ntmps22
      go_wp2
      go_ret
      rw [E.out]
      exact ⟨rfl, rfl⟩
  have b3 : (s == 127) = false := by simp [h3]
  by_cases h4 : s = 4
  · have b4 : (s == 4) = true := by simp [h4]
    by_cases h5 : 4 ≤ x
    · have b5 : decide (4 ≤ x) = true := by simp; omega
      have b6 : decide (3 < x) = true := by simp; omega
      have e : alB s x = true := by unfold alB; simp; omega
      have E := Lib.hid e
      clear h0 h1 h2 h3 h4 h5 e
      go_enter Try.func22, Try.ntmps22
      go_wp2
      go_ret
      rw [E.out]
      exact ⟨rfl, rfl⟩
    · have b5 : decide (4 ≤ x) = false := by simp; omega
      have b6 : decide (3 < x) = false := by simp; omega
      have e : alB s x = false := by unfold alB; simp; omega
      have E := Lib.hid e
      clear h0 h1 h2 h3 h4 h5 e
      go_enter Try.func22, Try.ntmps22
      go_wp2
      go_ret
      rw [E.out]
      exact ⟨rfl, rfl⟩
  have b4 : (s == 4) = false := by simp [h4]
  have e : alB s x = false := by unfold alB; simp; omega
  have E := Lib.hid e
  clear h0 h1 h2 h3 h4 e
  go_enter Try.func22, Try.ntmps22
  go_wp2
  go_ret
  rw [E.out]
  exact ⟨rfl, rfl⟩
set_option maxHeartbeats 4000000 in
theorem RAllows_any (s x : Int) (w : World) : Calls Try.prog 23 #[.int .i64 s, .int .i64 x] w fun e w' => e = .returned (.bool (alB s x)) ∧ w = w' := by
  by_cases h0 : x < 0
  · have b0 : decide (x < 0) = true := decide_eq_true h0
    have e : alB s x = false := by unfold alB; simp; omega
    have E := Lib.hid e
    clear h0 e
    go_enter Try.func23, Try.ntmps23
    go_wp2
    go_ret
    rw [E.out]
    exact ⟨rfl, rfl⟩
  by_cases h1 : 5 < x
  · have b0 : decide (x < 0) = false := decide_eq_false h0
    have b1 : decide (5 < x) = true := decide_eq_true h1
    have e : alB s x = false := by unfold alB; simp; omega
    have E := Lib.hid e
    clear h0 h1 e
    go_enter Try.func23, Try.ntmps23
    go_wp2
    go_ret
    rw [E.out]
    exact ⟨rfl, rfl⟩
  have b0 : decide (x < 0) = false := decide_eq_false h0
  have b1 : decide (5 < x) = false := decide_eq_false h1
  by_cases h2 : s = 5
  · have b2 : (s == 5) = true := by simp [h2]
    have e : alB s x = true := by unfold alB; simp; omega
    have E := Lib.hid e
    clear h0 h1 h2 e
    go_enter Try.func23, Try.ntmps23
    go_wp2
    go_ret
    rw [E.out]
    exact ⟨rfl, rfl⟩
  have b2 : (s == 5) = false := by simp [h2]
  by_cases h3 : s = 127
  · have b3 : (s == 127) = true := by simp [h3]
    have b4 : (s == 4) = false := by simp [h3]
    by_cases h5 : x = 0
    · have b5 : (x != 0) = false := by simp [h5]
      have b6 : decide (0 < x) = false := by simp; omega
      have e : alB s x = false := by unfold alB; simp; omega
      have E := Lib.hid e
      clear h0 h1 h2 h3 h5 e
      go_enter Try.func23, Try.ntmps23
      go_wp2
      go_ret
      rw [E.out]
      exact ⟨rfl, rfl⟩
    · have b5 : (x != 0) = true := by simp [h5]
      have b6 : decide (0 < x) = true := by simp; omega
      have e : alB s x = true := by unfold alB; simp; omega
      have E := Lib.hid e
      clear h0 h1 h2 h3 h5 e
      go_enter Try.func23, Try.ntmps23
      go_wp2
      go_ret
      rw [E.out]
      exact ⟨rfl, rfl⟩
  have b3 : (s == 127) = false := by simp [h3]
  by_cases h4 : s = 4
  · have b4 : (s == 4) = true := by simp [h4]
    by_cases h5 : 4 ≤ x
    · have b5 : decide (4 ≤ x) = true := by simp; omega
      have b6 : decide (3 < x) = true := by simp; omega
      have e : alB s x = true := by unfold alB; simp; omega
      have E := Lib.hid e
      clear h0 h1 h2 h3 h4 h5 e
      go_enter Try.func23, Try.ntmps23
      go_wp2
      go_ret
      rw [E.out]
      exact ⟨rfl, rfl⟩
    · have b5 : decide (4 ≤ x) = false := by simp; omega
      have b6 : decide (3 < x) = false := by simp; omega
      have e : alB s x = false := by unfold alB; simp; omega
      have E := Lib.hid e
      clear h0 h1 h2 h3 h4 h5 e
      go_enter Try.func23, Try.ntmps23
      go_wp2
      go_ret
      rw [E.out]
      exact ⟨rfl, rfl⟩
  have b4 : (s == 4) = false := by simp [h4]
  have e : alB s x = false := by unfold alB; simp; omega
  have E := Lib.hid e
  clear h0 h1 h2 h3 h4 e
  go_enter Try.func23, Try.ntmps23
  go_wp2
  go_ret
  rw [E.out]
  exact ⟨rfl, rfl⟩

theorem Allows_is {s x : Int} {b : Bool} (h : alB s x = b) (w : World) : Calls Try.prog 22 #[.int .i64 s, .int .i64 x] w fun e w' => e = .returned (.bool b) ∧ w = w' := h ▸ Allows_any s x w
theorem RAllows_is {s x : Int} {b : Bool} (h : alB s x = b) (w : World) : Calls Try.prog 23 #[.int .i64 s, .int .i64 x] w fun e w' => e = .returned (.bool b) ∧ w = w' := h ▸ RAllows_any s x w
set_option maxRecDepth 100000 in
set_option maxHeartbeats 4000000 in
theorem asks_no (s x c n : Int) (w : World) (h : ¬ Can c n) : Calls Try.prog 7 #[.agg #[.int .i64 s, .int .i64 x, .int .i64 c, .int .i64 n]] w fun e w' => e = .returned (.bool true) ∧ Keep Zero w w' := by
  obtain ⟨ic, hic⟩ : ∃ b, isB c = b := ⟨_, rfl⟩
  have HI := Lib.hid hic
  obtain ⟨al, hal⟩ : ∃ b, alB s x = b := ⟨_, rfl⟩
  have HL := Lib.hid hal
  have HC := Lib.hid h
  have hn : ic = true → n < 0 ∨ 127 < n := fun hc => by
    have h' : ¬ ((c = 1 ∨ c = 2 ∨ c = 128 ∨ c = 129 ∨ c = 130) ∧ 0 ≤ n ∧ n ≤ 127) := h
    subst hc
    unfold isB at hic
    simp at hic
    omega
  have HN := Lib.hid hn
  clear hic hal h hn
  go_enter Try.func7, Try.ntmps7
  go_wp2_with fail
  refine (Command_no c n _ HC.out).mono ?_
  rintro e w1 ⟨A, m, rfl, hk⟩
  have HK := Lib.hid (((Keep.refl Zero w).alloc (.cells #[.int .i64 s, .int .i64 x, .int .i64 c, .int .i64 n] 48)).trans hk (fun i hi => hi.elim))
  have hb := (Blk.new w #[.int .i64 s, .int .i64 x, .int .i64 c, .int .i64 n] 48).keep hk id
  have HB := Lib.hid hb
  have c0 : w1.cell? ⟨w.heap.size, 0, none⟩ = some (.int .i64 s) := hb.cell 0
  have c1 : w1.cell? ⟨w.heap.size, 1, none⟩ = some (.int .i64 x) := hb.cell 1
  have c2 : w1.cell? ⟨w.heap.size, 2, none⟩ = some (.int .i64 c) := hb.cell 2
  have c3 : w1.cell? ⟨w.heap.size, 3, none⟩ = some (.int .i64 n) := hb.cell 3
  clear hb hk
  cases ic with
  | false =>
    go_wp2_with ((with_reducible refine (Is_is HI.out _).mono ?_); rintro e w' ⟨rfl, rfl⟩)
    go_region_held (fun w' => w'.cell? ⟨w.heap.size, 0, none⟩ = some (.int .i64 s) ∧ w'.cell? ⟨w.heap.size, 1, none⟩ = some (.int .i64 x)) (first | go_keep | exact ⟨(HB.out.drew.keep hk9.out id).cell 0, (HB.out.drew.keep hk9.out id).cell 1⟩) (first | (go_at_call 22; refine (Allows_is HL.out _).mono ?_; rintro e w' ⟨rfl, rfl⟩) | (go_at_call 23; refine (RAllows_is HL.out _).mono ?_; rintro e w' ⟨rfl, rfl⟩) | (go_at_call 12; refine (lives_hid _).mono ?_; rintro e w9 ⟨rfl, hk9⟩))
    go_wp2
    go_ret
    exact ⟨rfl, HK.out.drew.trans hk9.out (fun i hi => hi.elim)⟩
  | true =>
    by_cases n0 : n < 0
    · have b0 : decide (n < 0) = true := decide_eq_true n0
      clear n0
      go_wp2_with ((with_reducible refine (Is_is HI.out _).mono ?_); rintro e w' ⟨rfl, rfl⟩)
      go_region_held (fun w' => w'.cell? ⟨w.heap.size, 0, none⟩ = some (.int .i64 s) ∧ w'.cell? ⟨w.heap.size, 1, none⟩ = some (.int .i64 x)) (first | go_keep | exact ⟨(HB.out.drew.keep hk9.out id).cell 0, (HB.out.drew.keep hk9.out id).cell 1⟩) (first | (go_at_call 22; refine (Allows_is HL.out _).mono ?_; rintro e w' ⟨rfl, rfl⟩) | (go_at_call 23; refine (RAllows_is HL.out _).mono ?_; rintro e w' ⟨rfl, rfl⟩) | (go_at_call 12; refine (lives_hid _).mono ?_; rintro e w9 ⟨rfl, hk9⟩))
      go_wp2
      go_ret
      exact ⟨rfl, HK.out.drew.trans hk9.out (fun i hi => hi.elim)⟩
    · have b0 : decide (n < 0) = false := decide_eq_false n0
      have b1 : decide (127 < n) = true := decide_eq_true ((HN.out rfl).resolve_left n0)
      clear n0
      go_wp2_with ((with_reducible refine (Is_is HI.out _).mono ?_); rintro e w' ⟨rfl, rfl⟩)
      go_region_held (fun w' => w'.cell? ⟨w.heap.size, 0, none⟩ = some (.int .i64 s) ∧ w'.cell? ⟨w.heap.size, 1, none⟩ = some (.int .i64 x)) (first | go_keep | exact ⟨(HB.out.drew.keep hk9.out id).cell 0, (HB.out.drew.keep hk9.out id).cell 1⟩) (first | (go_at_call 22; refine (Allows_is HL.out _).mono ?_; rintro e w' ⟨rfl, rfl⟩) | (go_at_call 23; refine (RAllows_is HL.out _).mono ?_; rintro e w' ⟨rfl, rfl⟩) | (go_at_call 12; refine (lives_hid _).mono ?_; rintro e w9 ⟨rfl, hk9⟩))
      go_wp2
      go_ret
      exact ⟨rfl, HK.out.drew.trans hk9.out (fun i hi => hi.elim)⟩

set_option maxRecDepth 100000 in
set_option maxHeartbeats 4000000 in
theorem asks_yes (s x c n : Int) (w : World) (h : Can c n) : Calls Try.prog 7 #[.agg #[.int .i64 s, .int .i64 x, .int .i64 c, .int .i64 n]] w fun e w' => e = .returned (.bool true) ∧ Keep Zero w w' := by
  have hic : isB c = true := by unfold isB; obtain ⟨h, _⟩ := h; rcases h with rfl | rfl | rfl | rfl | rfl <;> rfl
  have HI := Lib.hid hic
  obtain ⟨al, hal⟩ : ∃ b, alB s x = b := ⟨_, rfl⟩
  have HL := Lib.hid hal
  have HC := Lib.hid h
  obtain ⟨hc, n0, n1⟩ := h
  have c0 : 0 ≤ c := by omega
  have c1 : c ≤ 255 := by omega
  have b0 : decide (n < 0) = false := by simp; omega
  have b1 : decide (127 < n) = false := by simp; omega
  clear hic hal hc
  go_enter Try.func7, Try.ntmps7
  go_wp2_with fail
  refine (Command_yes c n _ HC.out).mono ?_
  rintro e w1 ⟨A, m, rfl, hr, hm, ha, hk⟩
  have HK := Lib.hid (((Keep.refl Zero w).alloc (.cells #[.int .i64 s, .int .i64 x, .int .i64 c, .int .i64 n] 48)).trans hk (fun i hi => hi.elim))
  have hb := (Blk.new w #[.int .i64 s, .int .i64 x, .int .i64 c, .int .i64 n] 48).keep hk id
  have HB := Lib.hid hb
  have HR := Lib.hid hr
  have d0 : w1.cell? ⟨w.heap.size, 0, none⟩ = some (.int .i64 s) := hb.cell 0
  have d1 : w1.cell? ⟨w.heap.size, 1, none⟩ = some (.int .i64 x) := hb.cell 1
  have d2 : w1.cell? ⟨w.heap.size, 2, none⟩ = some (.int .i64 c) := hb.cell 2
  have d3 : w1.cell? ⟨w.heap.size, 3, none⟩ = some (.int .i64 n) := hb.cell 3
  clear hb hk hr hm ha
  go_wp2_with ((with_reducible refine (Is_is HI.out _).mono ?_); rintro e w' ⟨rfl, rfl⟩)
  have hrun : Sem.run Try.prog (convert 27 9 (.slice A 2 m)) w1.drew = .ok (.string (str [c, n])) w1.drew := run_str under27 under5 under9 (HR.out.keep ((Keep.refl Zero w1).drew) (fun _ _ _ => id)) 2 rfl
  have HRun : Hid (∀ w', Keep Zero w1 w' → Sem.run Try.prog (convert 27 9 (.slice A 2 m)) w' = .ok (.string (str [c, n])) w') := fun w' hk => run_str under27 under5 under9 (HR.out.keep hk (fun _ _ _ => id)) 2 rfl
  have hwc : IntKind.u8.wrap c = c := IntWalk.u8_in _ (by omega)
  have hwn : IntKind.u8.wrap n = n := IntWalk.u8_in _ (by omega)
  have hrun2 : Sem.run Try.prog (convert 27 9 (.slice (some ⟨w1.heap.size, 0, none⟩) 2 2)) (w1.alloc (.cells #[.int .u8 c, .int .u8 n] 5)).drew = .ok (.string (str [c, n])) (w1.alloc (.cells #[.int .u8 c, .int .u8 n] 5)).drew :=
    run_str under27 under5 under9 (Row.blk ((Blk.new w1 _ _).drew) (fun i v hv => by simpa [ints] using hv)) 2 rfl
  have HB9 := Lib.hid ((HB.out.alloc (.cells #[.int .u8 c, .int .u8 n] 5)).drew)
  go_region_held (fun w' => w'.cell? ⟨w.heap.size, 0, none⟩ = some (.int .i64 s) ∧ w'.cell? ⟨w.heap.size, 1, none⟩ = some (.int .i64 x) ∧ w'.cell? ⟨w.heap.size, 2, none⟩ = some (.int .i64 c) ∧ w'.cell? ⟨w.heap.size, 3, none⟩ = some (.int .i64 n) ∧ Sem.run Try.prog (convert 27 9 (.slice A 2 m)) w' = .ok (.string (str [c, n])) w') (first | (go_keep; done) | (go_keep; exact HRun.out _ ((Keep.refl Zero w1).alloc _).drew) | exact ⟨(HB9.out.keep hk9.out id).cell 0, (HB9.out.keep hk9.out id).cell 1, (HB9.out.keep hk9.out id).cell 2, (HB9.out.keep hk9.out id).cell 3, HRun.out _ ((((Keep.refl Zero w1).alloc _).drew).trans hk9.out (fun i hi => hi.elim))⟩) (first | (go_at_call 22; refine (Allows_is HL.out _).mono ?_; rintro e w' ⟨rfl, rfl⟩) | (go_at_call 23; refine (RAllows_is HL.out _).mono ?_; rintro e w' ⟨rfl, rfl⟩) | (go_at_call 12; refine (lives_hid _).mono ?_; rintro e w9 ⟨rfl, hk9⟩))
  go_wp2
  go_ret
  exact ⟨rfl, ((HK.out.alloc _).drew).trans hk9.out (fun i hi => hi.elim)⟩
end Go.Proofs.Ytghnegidhfmphaa.Nmt
