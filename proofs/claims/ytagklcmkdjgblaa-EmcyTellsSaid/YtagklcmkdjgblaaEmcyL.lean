/- Errors and frames are as themselves; Read; same; lives. -/
import Derived.Test.YtagklcmkdjgblaaEmcyK
import Derived.Laws.StructEq
namespace Go.Proofs.Ytagklcmkdjgblaa.Emcy
open Go.RowKit Go.Proofs.Ytagklcmkdjgblaa.Own
theorem under5 : Try.prog.underlying 5 = some (.int .u8) := by kernel_rfl
theorem size5 (w : World) : (sizeOf 5).run Try.prog w = .ok 1 w := by
  simp [go_sem]
theorem run_equalIn_self (w : World) (d : Nat) (T n : Nat) (ht : Try.prog.underlying T = some (.array n 5)) (xs : List Int) (hx : xs.length = n) :
    (Op.equalIn (d + 2) T (.agg (ints .u8 xs).toArray) (.agg (ints .u8 xs).toArray)).run Try.prog w = .ok true w := by
  rw [Op.equalIn]
  simp only [Sem.run_bind, run_underlying ht, Result.andThen_ok, size5, Std.Legacy.Range.forIn_eq_forIn_range', Std.Legacy.Range.size, Nat.sub_zero, Nat.add_sub_cancel, Nat.div_one]
  have hl : ∀ i ∈ List.range' 0 n 1, i < n := fun i hi => by simpa using (List.mem_range'_1.1 hi).2
  generalize List.range' 0 n 1 = l at hl ⊢
  induction l with
  | nil => simp
  | cons i l ih =>
    have hi : i < n := hl i (by simp)
    have px : (part 5 (ints .u8 xs).toArray (i * 1)).run Try.prog w = .ok (.int .u8 (xs.getD i 0)) w := by
      simp [part, isAgg, run_underlying under5, ints, List.getD, List.getElem?_eq_getElem (show i < xs.length by omega)]
    have pe : (Op.equalIn (d + 1) 5 (.int .u8 (xs.getD i 0)) (.int .u8 (xs.getD i 0))).run Try.prog w = .ok true w := by
      rw [run_equalIn_int w d 5 .u8 .u8 _ _ under5]
      simp
    simp only [List.forIn_cons, Sem.run_bind, px, pe, Result.andThen_ok]
    simp only [Bool.not_true, Bool.false_eq_true, if_false, Sem.run_pure, Result.andThen_ok]
    exact ih fun j hj => hl j (by simp [hj])
theorem eq35 (x0 x1 x2 x3 x4 x5 x6 x7 : Int) (w : World) : Sem.run Try.prog (binOp .eql 35 (.agg #[.int .u8 x0, .int .u8 x1, .int .u8 x2, .int .u8 x3, .int .u8 x4, .int .u8 x5, .int .u8 x6, .int .u8 x7]) (.agg #[.int .u8 x0, .int .u8 x1, .int .u8 x2, .int .u8 x3, .int .u8 x4, .int .u8 x5, .int .u8 x6, .int .u8 x7])) w = .ok (.bool true) w := by
  rw [run_eql_struct]
  have h := run_equalIn_self w 9998 35 8 (by kernel_rfl) [x0, x1, x2, x3, x4, x5, x6, x7] rfl
  have e : (ints .u8 [x0, x1, x2, x3, x4, x5, x6, x7]).toArray = #[.int .u8 x0, .int .u8 x1, .int .u8 x2, .int .u8 x3, .int .u8 x4, .int .u8 x5, .int .u8 x6, .int .u8 x7] := rfl
  rw [e] at h
  rw [h]
  rfl
theorem eqIn33 (d : Nat) (c r x0 x1 x2 x3 x4 : Int) (w : World) : (Op.equalIn (d + 4) 33 (.agg #[.int .u16 c, .int .u8 r, .int .u8 x0, .int .u8 x1, .int .u8 x2, .int .u8 x3, .int .u8 x4]) (.agg #[.int .u16 c, .int .u8 r, .int .u8 x0, .int .u8 x1, .int .u8 x2, .int .u8 x3, .int .u8 x4])).run Try.prog w = .ok true w := by
  have hs : Try.prog.stoodInHeld 33 = false := by kernel_rfl
  have hu : Try.prog.underlying 33 = some (.struct (Try.prog.fieldsOf 33)) := by kernel_rfl
  have u30 : Try.prog.underlying 30 = some (.int .u16) := by kernel_rfl
  have u31 : Try.prog.underlying 31 = some (.array 5 5) := by kernel_rfl
  rw [run_equalIn_struct w (d + 3) 33 _ _ hu hs]
  have hm : (Try.prog.fieldsOf 33).toList.map (fun f => (f.name, f.type, f.offset)) = [("Code", 30, 0), ("Register", 5, 1), ("Extra", 31, 2)] := by kernel_rfl
  obtain ⟨f0, f1, f2, hf, n0, t0, o0, n1, t1, o1, n2, t2, o2⟩ : ∃ f0 f1 f2 : Field, (Try.prog.fieldsOf 33).toList = [f0, f1, f2] ∧ f0.name = "Code" ∧ f0.type = 30 ∧ f0.offset = 0 ∧ f1.name = "Register" ∧ f1.type = 5 ∧ f1.offset = 1 ∧ f2.name = "Extra" ∧ f2.type = 31 ∧ f2.offset = 2 := by
    generalize (Try.prog.fieldsOf 33).toList = l at hm
    rcases l with _ | ⟨f0, _ | ⟨f1, _ | ⟨f2, _ | ⟨f3, l⟩⟩⟩⟩
    · simp at hm
    · simp at hm
    · simp at hm
    · simp only [List.map_cons, List.map_nil, List.cons.injEq, Prod.mk.injEq, and_true] at hm
      exact ⟨f0, f1, f2, rfl, hm.1.1, hm.1.2.1, hm.1.2.2, hm.2.1.1, hm.2.1.2.1, hm.2.1.2.2, hm.2.2.1, hm.2.2.2.1, hm.2.2.2.2⟩
    · simp at hm
  have h31 := run_equalIn_self w (d + 1) 31 5 u31 [x0, x1, x2, x3, x4] rfl
  have e : (ints .u8 [x0, x1, x2, x3, x4]).toArray = #[.int .u8 x0, .int .u8 x1, .int .u8 x2, .int .u8 x3, .int .u8 x4] := rfl
  rw [e] at h31
  have p2 : (part 31 #[.int .u16 c, .int .u8 r, .int .u8 x0, .int .u8 x1, .int .u8 x2, .int .u8 x3, .int .u8 x4] 2).run Try.prog w = .ok (.agg #[.int .u8 x0, .int .u8 x1, .int .u8 x2, .int .u8 x3, .int .u8 x4]) w := by
    simp [part, isAgg, run_underlying u31]
  have p0 : (part 30 #[.int .u16 c, .int .u8 r, .int .u8 x0, .int .u8 x1, .int .u8 x2, .int .u8 x3, .int .u8 x4] 0).run Try.prog w = .ok (.int .u16 c) w := by
    simp [part, isAgg, run_underlying u30]
  have p1 : (part 5 #[.int .u16 c, .int .u8 r, .int .u8 x0, .int .u8 x1, .int .u8 x2, .int .u8 x3, .int .u8 x4] 1).run Try.prog w = .ok (.int .u8 r) w := by
    simp [part, isAgg, run_underlying under5]
  have q0 := run_equalIn_int w (d + 2) 30 .u16 .u16 c c u30
  have q1 := run_equalIn_int w (d + 2) 5 .u8 .u8 r r under5
  rw [hf]
  simp [Op.eqFields, n0, n1, n2, t0, t1, t2, o0, o1, o2, p0, p1, p2, q0, q1, h31]
theorem eq33 (c r x0 x1 x2 x3 x4 : Int) (w : World) : Sem.run Try.prog (binOp .eql 33 (.agg #[.int .u16 c, .int .u8 r, .int .u8 x0, .int .u8 x1, .int .u8 x2, .int .u8 x3, .int .u8 x4]) (.agg #[.int .u16 c, .int .u8 r, .int .u8 x0, .int .u8 x1, .int .u8 x2, .int .u8 x3, .int .u8 x4])) w = .ok (.bool true) w := by
  rw [run_eql_struct, eqIn33 9996]
  rfl
theorem neq33 (c r x0 x1 x2 x3 x4 : Int) (w : World) : Sem.run Try.prog (binOp .neq 33 (.agg #[.int .u16 c, .int .u8 r, .int .u8 x0, .int .u8 x1, .int .u8 x2, .int .u8 x3, .int .u8 x4]) (.agg #[.int .u16 c, .int .u8 r, .int .u8 x0, .int .u8 x1, .int .u8 x2, .int .u8 x3, .int .u8 x4])) w = .ok (.bool false) w := by
  rw [run_neq_struct, eqIn33 9996]
  rfl
set_option maxHeartbeats 2000000 in
theorem same_true {w : World} {A B : Option Addr} {c d n : Nat} {l : List Tr} (hA : Trs w A l) (hB : Trs w B l) (hn : n = l.length) (hl : n ≤ 1000000000000000) :
    Calls Try.prog 16 #[.slice A n c, .slice B n d] w fun e w' => e = .returned (.bool true) ∧ Keep Zero w w' := by
  have HA := Lib.hid hA
  have HB := Lib.hid hB
  have HN := Lib.hid hn
  clear hA hB hn
  go_enter Try.func16, Try.ntmps16
  go_wp2_with fail
  go_loopg [5] n (fun k s5 wr => ∃ j m : Nat, j ≤ n ∧ k = n - j ∧ s5 = .int .i64 j ∧ wr = w.drewN m)
  case atStart => exact ⟨0, 0, Nat.zero_le _, rfl, rfl, rfl⟩
  case round =>
    obtain ⟨j, m, hj, hk, rfl, rfl⟩ := hrel
    have HM := Lib.hid hk
    clear hk
    by_cases hlt : j < n
    · have h1 : (j : Int) < (n : Int) := by omega
      have h0 : (0 : Int) ≤ (j : Int) := by omega
      obtain ⟨t, ht⟩ : ∃ t, l[j]? = some t := ⟨l[j]'(by rw [← HN.out]; exact hlt), List.getElem?_eq_getElem _⟩
      obtain ⟨b1, o1, rfl, lb1, x0, x1, x2, x3, x4, x5, x6⟩ := Trs.pick HA.out ht
      obtain ⟨b2, o2, rfl, lb2, y0, y1, y2, y3, y4, y5, y6⟩ := Trs.pick HB.out ht
      have hne := neq33 t.code t.reg t.x0 t.x1 t.x2 t.x3 t.x4
      clear ht
      go_wp2_with fail
      go_quiet (fail)
      go_wp2_with fail
      go_roundg (n - (j + 1))
      case measure => rw [HM.out]; omega
      case rel => exact ⟨j + 1, _, by omega, rfl, by go_num, rfl⟩
    · obtain rfl : j = n := by omega
      have hlt2 : ¬ (j : Int) < (j : Int) := by omega
      go_wp2_with fail
      go_ret
      exact ⟨rfl, (Keep.refl _ _).drewN _⟩
theorem results_tr {fn : Func} {p : Tmp} (h : fn.results = #[.cell p 33]) (tmps : Array Value) (w : World) (b : Nat) (t : Tr) (hp : tmps.getD p undef = .pointer (some ⟨b, 0, none⟩))
    (hb : Blk w b t.cells.toArray 33) : (results fn tmps).run Try.prog w = .ok t.v w :=
  have hu : Try.prog.underlying 33 = some (.struct (Try.prog.fieldsOf 33)) := by kernel_rfl
  results_cell_row h tmps w b 33 t.cells.toArray (0, 0) _ hp hb hu rfl (by
    obtain ⟨i, hi, _, hs, _⟩ := info_parts info33
    simp only [hi, Option.map_some, hs]
    rfl)
def readF (f : Fr) : Tr := ⟨f.b0 + f.b1 * 256, f.b2, f.b3, f.b4, f.b5, f.b6, f.b7⟩
end Go.Proofs.Ytagklcmkdjgblaa.Emcy
