/- Which forms can be; how a sender is made. -/
import Derived.Test.YtcgnkabblmoboaaPdoC
namespace Go.Proofs.Ytcgnkabblmoboaa.Pdo
open Go.RowKit Go.Proofs.Ytcgnkabblmoboaa.Own
def isB (t : Int) : Bool := freeB t || (decide (0 ≤ t) && decide (t ≤ 240))
theorem is_any (t : Int) (b : Bool) (hb : isB t = b) (w : World) : Calls Try.prog 24 #[.int .i64 t] w fun e w' => e = .returned (.bool b) ∧ w = w' := by
  obtain ⟨f, hf⟩ : ∃ f, freeB t = f := ⟨_, rfl⟩
  have F := Lib.hid hf
  have e : b = (f || (decide (0 ≤ t) && decide (t ≤ 240))) := by rw [← hb, ← hf]; rfl
  have E := Lib.hid e
  clear hb hf e
  by_cases h1 : 0 ≤ t
  · have b1 : decide (0 ≤ t) = true := decide_eq_true h1
    by_cases h2 : t ≤ 240
    · have b2 : decide (t ≤ 240) = true := decide_eq_true h2
      cases f with
      | true =>
        go_enter Try.func24, Try.ntmps24
        go_wp2_with ((with_reducible refine (free_any t _ F.out _).mono ?_); rintro e w' ⟨rfl, rfl⟩)
        go_ret
        rw [E.out]
        exact ⟨rfl, rfl⟩
      | false =>
        go_enter Try.func24, Try.ntmps24
        go_wp2_with ((with_reducible refine (free_any t _ F.out _).mono ?_); rintro e w' ⟨rfl, rfl⟩)
        go_ret
        rw [E.out, b1, b2]
        exact ⟨rfl, rfl⟩
    · have b2 : decide (t ≤ 240) = false := decide_eq_false h2
      cases f with
      | true =>
        go_enter Try.func24, Try.ntmps24
        go_wp2_with ((with_reducible refine (free_any t _ F.out _).mono ?_); rintro e w' ⟨rfl, rfl⟩)
        go_ret
        rw [E.out]
        exact ⟨rfl, rfl⟩
      | false =>
        go_enter Try.func24, Try.ntmps24
        go_wp2_with ((with_reducible refine (free_any t _ F.out _).mono ?_); rintro e w' ⟨rfl, rfl⟩)
        go_ret
        rw [E.out, b1, b2]
        exact ⟨rfl, rfl⟩
  · have b1 : decide (0 ≤ t) = false := decide_eq_false h1
    cases f with
    | true =>
      go_enter Try.func24, Try.ntmps24
      go_wp2_with ((with_reducible refine (free_any t _ F.out _).mono ?_); rintro e w' ⟨rfl, rfl⟩)
      go_ret
      rw [E.out]
      exact ⟨rfl, rfl⟩
    | false =>
      go_enter Try.func24, Try.ntmps24
      go_wp2_with ((with_reducible refine (free_any t _ F.out _).mono ?_); rintro e w' ⟨rfl, rfl⟩)
      go_ret
      rw [E.out, b1]
      exact ⟨rfl, rfl⟩
theorem RIs_any (t : Int) (b : Bool) (hb : isB t = b) (w : World) : Calls Try.prog 9 #[.int .i64 t] w fun e w' => e = .returned (.bool b) ∧ w = w' := by
  obtain ⟨f, hf⟩ : ∃ f, freeB t = f := ⟨_, rfl⟩
  have F := Lib.hid hf
  have e : b = (f || (decide (0 ≤ t) && decide (t ≤ 240))) := by rw [← hb, ← hf]; rfl
  have E := Lib.hid e
  clear hb hf e
  by_cases h1 : 0 ≤ t
  · have b1 : decide (0 ≤ t) = true := decide_eq_true h1
    by_cases h2 : t ≤ 240
    · have b2 : decide (t ≤ 240) = true := decide_eq_true h2
      go_enter Try.func9, Try.ntmps9
      go_wp2_with ((with_reducible refine (RFree_any t _ F.out _).mono ?_); rintro e w' ⟨rfl, rfl⟩)
      go_ret
      rw [E.out, b1, b2]
      cases f <;> exact ⟨rfl, rfl⟩
    · have b2 : decide (t ≤ 240) = false := decide_eq_false h2
      go_enter Try.func9, Try.ntmps9
      go_wp2_with ((with_reducible refine (RFree_any t _ F.out _).mono ?_); rintro e w' ⟨rfl, rfl⟩)
      go_ret
      rw [E.out, b1, b2]
      cases f <;> exact ⟨rfl, rfl⟩
  · have b1 : decide (0 ≤ t) = false := decide_eq_false h1
    go_enter Try.func9, Try.ntmps9
    go_wp2_with ((with_reducible refine (RFree_any t _ F.out _).mono ?_); rintro e w' ⟨rfl, rfl⟩)
    go_ret
    rw [E.out, b1]
    cases f <;> exact ⟨rfl, rfl⟩
def formV (t i v : Int) : Value := .agg #[.int .i64 t, .int .u64 i, .int .u64 v]
/-- A form that can be. -/
def okB (t i v : Int) : Bool := isB t && (decide (i ≤ 4294967296) && decide (v ≤ 4294967296))
def err (b : Bool) : Int := if b then 0 else 1
set_option maxHeartbeats 2000000 in
theorem check_any (t i v : Int) (b : Bool) (hb : okB t i v = b) (w : World) : Calls Try.prog 27 #[formV t i v] w fun e w' => e = .returned (.int .i64 (err b)) ∧ Keep Zero w w' := by
  unfold formV
  obtain ⟨f, hf⟩ : ∃ f, isB t = f := ⟨_, rfl⟩
  have F := Lib.hid hf
  have e : b = (f && (decide (i ≤ 4294967296) && decide (v ≤ 4294967296))) := by rw [← hb, ← hf]; rfl
  have E := Lib.hid e
  clear hb hf e
  go_enter Try.func27, Try.ntmps27
  go_wp2_with ((with_reducible refine (is_any t _ F.out _).mono ?_); rintro e w' ⟨rfl, rfl⟩)
  all_goals
    go_ret
    refine ⟨?_, (Keep.refl _ _).alloc _⟩
    rw [E.out]
    clear E F
    first
    | (have hv : err (f && (decide (i ≤ 4294967296) && decide (v ≤ 4294967296))) = 0 := by
        have h1 : i ≤ 4294967296 := by omega
        have h2 : v ≤ 4294967296 := by omega
        simp [err, *]
       rw [hv]; rfl)
    | (have hv : err (f && (decide (i ≤ 4294967296) && decide (v ≤ 4294967296))) = 1 := by
        have h1 : ¬ (f = true ∧ i ≤ 4294967296 ∧ v ≤ 4294967296) := fun ⟨e1, e2, e3⟩ => by first | omega | (have := e1; contradiction)
        simp [err]
        simpa using h1
       rw [hv]; rfl)
set_option maxHeartbeats 2000000 in
theorem Check_any (t i v : Int) (b : Bool) (hb : okB t i v = b) (w : World) : Calls Try.prog 23 #[formV t i v] w fun e w' => e = .returned (.int .i64 (err b)) ∧ Keep Zero w w' := by
  unfold formV
  have F := Lib.hid hb
  clear hb
  go_enter Try.func23, Try.ntmps23
  go_wp2_with fail
  refine (check_any t i v b F.out _).mono ?_
  rintro e w2 ⟨rfl, h2⟩
  have K : Hid (Keep Zero w w2) := ((Keep.refl Zero w).alloc _).trans h2 (fun i hi => hi.elim)
  clear h2
  go_wp2
  go_ret
  exact ⟨rfl, K.out⟩
def Sd.new (t i v : Int) : Sd := ⟨t, i, v, false, false, 0, 0, 0⟩
set_option maxHeartbeats 2000000 in
theorem New_bad (t i v : Int) (hb : okB t i v = false) (w : World) : Calls Try.prog 15 #[formV t i v] w fun e w' => e = .returned (.tuple #[.pointer none, .int .i64 1]) ∧ Keep Zero w w' := by
  unfold formV
  have F := Lib.hid hb
  clear hb
  go_enter Try.func15, Try.ntmps15
  go_wp2_with fail
  refine (check_any t i v false F.out _).mono ?_
  rintro e w2 ⟨rfl, h2⟩
  have K : Hid (Keep Zero w w2) := ((Keep.refl Zero w).alloc _).trans h2 (fun i hi => hi.elim)
  clear h2
  unfold err
  go_wp2
  go_ret2
  exact ⟨rfl, K.out⟩
set_option maxHeartbeats 2000000 in
theorem New_ok (t i v : Int) (hb : okB t i v = true) (w : World) : Calls Try.prog 15 #[formV t i v] w fun e w' => ∃ g, e = .returned (.tuple #[.pointer (some ⟨g, 0, none⟩), .int .i64 0]) ∧ IsSd w' g (Sd.new t i v) ∧ w.heap.size ≤ g ∧ Keep Zero w w' := by
  unfold formV
  have F := Lib.hid hb
  clear hb
  go_enter Try.func15, Try.ntmps15
  go_wp2_with fail
  refine (check_any t i v true F.out _).mono ?_
  rintro e w2 ⟨rfl, h2⟩
  have B : Hid (Blk w2 w.heap.size #[.int .i64 t, .int .u64 i, .int .u64 v] 39) := Lib.hid ((Blk.new w _ _).keep h2 id)
  have K : Hid (Keep Zero w w2) := ((Keep.refl Zero w).alloc _).trans h2 (fun i hi => hi.elim)
  have d0 := B.out.cell 0
  have d1 := B.out.cell 1
  have d2 := B.out.cell 2
  clear h2
  unfold err
  go_wp2
  go_ret2
  exact ⟨_, rfl, Blk.new _ _ _, K.out.size, K.out.alloc _⟩
set_option maxHeartbeats 2000000 in
theorem RCheck_any (t i v : Int) (b : Bool) (hb : okB t i v = b) (w : World) : Calls Try.prog 16 #[formV t i v] w fun e w' => e = .returned (.int .i64 (err b)) ∧ Keep Zero w w' := by
  unfold formV
  obtain ⟨f, hf⟩ : ∃ f, isB t = f := ⟨_, rfl⟩
  have F := Lib.hid hf
  have e : b = (f && (decide (i ≤ 4294967296) && decide (v ≤ 4294967296))) := by rw [← hb, ← hf]; rfl
  have E := Lib.hid e
  clear hb hf e
  go_enter Try.func16, Try.ntmps16
  go_wp2_with ((with_reducible refine (RIs_any t _ F.out _).mono ?_); rintro e w' ⟨rfl, rfl⟩)
  all_goals
    go_ret
    refine ⟨?_, (Keep.refl _ _).alloc _⟩
    rw [E.out]
    clear E F
    first
    | (have hv : err (f && (decide (i ≤ 4294967296) && decide (v ≤ 4294967296))) = 0 := by
        have h1 : i ≤ 4294967296 := by omega
        have h2 : v ≤ 4294967296 := by omega
        simp [err, *]
       rw [hv]; rfl)
    | (have hv : err (f && (decide (i ≤ 4294967296) && decide (v ≤ 4294967296))) = 1 := by
        have h1 : ¬ (f = true ∧ i ≤ 4294967296 ∧ v ≤ 4294967296) := fun ⟨e1, e2, e3⟩ => by first | omega | (have := e1; contradiction)
        simp [err]
        simpa using h1
       rw [hv]; rfl)
end Go.Proofs.Ytcgnkabblmoboaa.Pdo
