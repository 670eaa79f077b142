/- What is wrong with numbers: a map of the numbers that were seen. -/
import Derived.Test.YtcmfcnljdeddfaaNumG
import Derived.MapKept
import Derived.Carry
namespace Go.Proofs.Ytcmfcnljdeddfaa.Num
open Go.RowKit Go.Proofs.Ytcmfcnljdeddfaa.Own Go.Proofs.Ytcmfcnljdeddfaa.Crc Go.MapKept
/-- Block m is a set of numbers. -/
def IsSet (w : World) (m : Nat) (xs : List Int) : Prop :=
  ∃ es clock, w.heap[m]? = some (.map es clock) ∧ (∀ e ∈ es.toList, ∃ k, k ∈ xs ∧ e.key = .int .i64 k ∧ e.val = .bool true) ∧ ∀ k, k ∈ xs → ∃ e, e ∈ es.toList ∧ e.key = .int .i64 k
theorem under3 : Try.prog.underlying 3 = some (.int .i64) := by kernel_rfl
theorem under110 : Try.prog.underlying 110 = some (.map 3 4) := by kernel_rfl
theorem zero4 (w : World) : (zeroValue 4).run Try.prog w = .ok (.bool false) w := by
  simp [go_sem]
theorem findNow_set {k : Int} : ∀ (l : List MapEntry) (i : Nat) (_ : ∀ e ∈ l, ∃ q, e.key = .int .i64 q ∧ e.val = .bool true),
    (∃ j e, e ∈ l ∧ e.key = .int .i64 k ∧ Instr.findNow (.int .i64) (.int .i64 k) l i = some (some (j, .bool true))) ∨ ((∀ e ∈ l, e.key ≠ .int .i64 k) ∧ Instr.findNow (.int .i64) (.int .i64 k) l i = some none)
  | [], i, _ => .inr ⟨fun e he => by simp at he, rfl⟩
  | e :: l, i, h => by
    obtain ⟨q, hq, hv⟩ := h e (by simp)
    rw [Instr.findNow, hq]
    by_cases hkq : k = q
    · subst hkq
      simp only [Instr.sameNow, if_true, beq_self_eq_true, hv]
      exact .inl ⟨i, e, by simp, hq, rfl⟩
    · have e1 : Instr.sameNow (.int .i64) (.int .i64 k) (.int .i64 q) = some false := by simp [Instr.sameNow, hkq]
      rw [e1]
      simp only
      rcases findNow_set l (i + 1) (fun e' he => h e' (by simp [he])) with ⟨j, e', he, hk, hf⟩ | ⟨hn, hf⟩
      · exact .inl ⟨j, e', by simp [he], hk, hf⟩
      · refine .inr ⟨fun e' he => ?_, hf⟩
        rcases List.mem_cons.1 he with rfl | he
        · rw [hq]
          simp
          exact fun e => hkq e.symm
        · exact hn e' he
theorem look_set {w : World} {m : Nat} {xs : List Int} (h : IsSet w m xs) (k : Int) : (Instr.lookup 110 (.map (some m)) (.int .i64 k) false).run Try.prog w = .ok (.bool (decide (k ∈ xs))) w := by
  obtain ⟨es, clock, hb, h1, h2⟩ := h
  unfold Instr.lookup
  simp only [Sem.run_bind, run_underlying under110, Result.andThen_ok, Go.MapKept.run_getObj_map hb, Sem.run_pure, run_checkKey under3 (k := .int .i64 k) (by simp [IsKey])]
  rcases findNow_set (k := k) es.toList 0 (fun e he => by obtain ⟨q, _, a, b⟩ := h1 e he; exact ⟨q, a, b⟩) with ⟨j, e, he, hk, hf⟩ | ⟨hn, hf⟩
  · rw [run_findKey under3 hf]
    obtain ⟨q, hq, hkq, _⟩ := h1 e he
    rw [hkq] at hk
    cases hk
    simp [hq]
  · rw [run_findKey under3 hf]
    have hkx : k ∉ xs := fun hx => by
      obtain ⟨e, he, hk⟩ := h2 k hx
      exact hn e he hk
    simp [hkx]
theorem put_set {w : World} {m : Nat} {xs : List Int} (h : IsSet w m xs) (k : Int) (hk : k ∉ xs) : ∃ w', (Instr.mapUpdate 110 (.map (some m)) (.int .i64 k) (.bool true)).run Try.prog w = .ok () w' ∧ IsSet w' m (k :: xs) ∧ Keep (Own.One m) w w' := by
  obtain ⟨es, clock, hb, h1, h2⟩ := h
  have hlt : m < w.heap.size := (Array.getElem?_eq_some_iff.1 hb).1
  have hf : Instr.findNow (.int .i64) (.int .i64 k) es.toList 0 = some none := by
    rcases findNow_set (k := k) es.toList 0 (fun e he => by obtain ⟨q, _, a, b⟩ := h1 e he; exact ⟨q, a, b⟩) with ⟨j, e, he, hke, hf⟩ | ⟨hn, hf⟩
    · obtain ⟨q, hq, hkq, _⟩ := h1 e he
      rw [hkq] at hke
      cases hke
      exact absurd hq hk
    · exact hf
  refine ⟨{ w with heap := w.heap.setIfInBounds m (.map (es.push { key := .int .i64 k, val := .bool true, born := clock }) (clock + 1)) }, ?_, ?_, ?_⟩
  · unfold Instr.mapUpdate
    simp only [Sem.run_bind, run_underlying under110, Result.andThen_ok, Go.MapKept.run_getObj_map hb, run_checkKey under3 (k := .int .i64 k) (by simp [IsKey]), run_findKey under3 hf]
    exact run_setObj_map _ hb
  · refine ⟨es.push { key := .int .i64 k, val := .bool true, born := clock }, clock + 1, by simp [hlt], fun e he => ?_, fun q hq => ?_⟩
    · simp only [Array.toList_push, List.mem_append, List.mem_singleton] at he
      rcases he with he | rfl
      · obtain ⟨q, hq, a, b⟩ := h1 e he
        exact ⟨q, by simp [hq], a, b⟩
      · exact ⟨k, by simp, rfl, rfl⟩
    · rcases List.mem_cons.1 hq with rfl | hq
      · exact ⟨{ key := .int .i64 q, val := .bool true, born := clock }, by simp, rfl⟩
      · obtain ⟨e, he, hke⟩ := h2 q hq
        exact ⟨e, by simp [he], hke⟩
  · refine ⟨rfl, rfl, rfl, by simp, fun i hi hn => ?_⟩
    have hne : m ≠ i := fun e => hn e.symm
    simp [hne]
theorem IsSet.keep {S : Nat → Prop} {w w1 : World} {m : Nat} {xs : List Int} (h : IsSet w m xs) (k : Keep S w w1) (hn : ¬ S m) : IsSet w1 m xs := by
  obtain ⟨es, clock, hb, r⟩ := h
  exact ⟨es, clock, (k.block m (Array.getElem?_eq_some_iff.1 hb).1 hn).trans hb, r⟩
theorem IsSet.new (w : World) : IsSet (w.alloc (.map #[] 0)) w.heap.size [] := ⟨#[], 0, heap_alloc_new w _, fun e he => by simp at he, fun k hk => by simp at hk⟩
theorem under71 : Try.prog.underlying 71 = some (.pointer (Try.prog.pointee 71)) := by kernel_rfl
theorem eql_ptr (w : World) (q : Nat) : Sem.run Try.prog (binOp .eql 71 (.pointer none) (.pointer (some ⟨q, 0, none⟩))) w = .ok (.bool false) w := by
  have h : ∀ d : Nat, (Op.equalIn (d + 1) 71 (.pointer none) (.pointer (some ⟨q, 0, none⟩))).run Try.prog w = .ok false w := fun d => by
    simp [Op.equalIn, run_underlying under71]
  simp only [binOp]
  simp [Op.equal, Op.maxDepth, h 9999]
set_option maxRecDepth 100000 in
set_option maxHeartbeats 2000000 in
theorem Index_none {w : World} {A : Option Addr} {n cap : Nat} {g : Nat → Nat} {σ : Nat → Sl} (h : Slvs w A n g σ) (hn : n ≤ 8) : Calls Try.prog 37 #[.slice A n cap, .pointer none] w fun e w' => e = .returned (.int .i64 (-1)) ∧ w = w' := by
  have H := Lib.hid h
  clear h
  go_enter Try.func37, Try.ntmps37
  go_wp2_with fail
  go_loopg [8] n (fun k s8 wr => ∃ j : Nat, j ≤ n ∧ k = n - j ∧ s8 = .int .i64 j ∧ w = wr)
  case atStart => exact ⟨0, by omega, rfl, rfl, rfl⟩
  case round =>
    obtain ⟨j, hj, hk, rfl, rfl⟩ := hrel
    have HM := Lib.hid hk
    clear hk
    by_cases hlt : j < n
    · have h1 : (j : Int) < (n : Int) := by omega
      have h0 : (0 : Int) ≤ (j : Int) := by omega
      obtain ⟨b, o, rfl, lb, hfar, gb⟩ := H.out.row j hlt
      clear hfar
      have heq := fun w => eql_ptr w (g j)
      go_wp2_with fail
      go_roundg (n - (j + 1))
      case measure => rw [HM.out]; omega
      case rel => exact ⟨j + 1, hlt, rfl, by go_num, rfl⟩
    · go_wp2_with fail
      go_ret
      exact ⟨rfl, rfl⟩
theorem Contains_none {w : World} {A : Option Addr} {n cap : Nat} {g : Nat → Nat} {σ : Nat → Sl} (h : Slvs w A n g σ) (hn : n ≤ 8) : Calls Try.prog 33 #[.slice A n cap, .pointer none] w fun e w' => e = .returned (.bool false) ∧ w = w' := by
  have H := Lib.hid h
  clear h
  go_enter Try.func33, Try.ntmps33
  go_wp2_with fail
  refine (Index_none H.out hn).mono ?_
  rintro e w1 ⟨rfl, rfl⟩
  go_wp2_with fail
  go_ret
  exact ⟨rfl, rfl⟩
/-- Numbers that can be given. -/
def Good (ids : List Int) : Prop := ids.Nodup ∧ ∀ x, x ∈ ids → 1 ≤ x ∧ x ≤ 127
theorem Good.snoc {ids : List Int} {j : Nat} {x : Int} (h : Good (ids.take j)) (hx : ids[j]? = some x) (h1 : 1 ≤ x) (h2 : x ≤ 127) (hn : x ∉ ids.take j) : Good (ids.take (j + 1)) := by
  rw [List.take_add_one, hx]
  refine ⟨?_, fun y hy => ?_⟩
  · rw [List.nodup_append]
    exact ⟨h.1, by simp, fun a ha b hb e => by
      simp at hb
      subst hb
      exact hn (e ▸ ha)⟩
  · rcases List.mem_append.1 hy with hy | hy
    · exact h.2 y hy
    · simp at hy
      subst hy
      exact ⟨h1, h2⟩
theorem not_good {ids : List Int} {j : Nat} {x : Int} (hx : ids[j]? = some x) (h : x < 1 ∨ 127 < x ∨ x ∈ ids.take j) : ¬ Good ids := by
  intro k
  rcases h with h | h | h
  · have := (k.2 x (List.mem_of_getElem? hx)).1
    omega
  · have := (k.2 x (List.mem_of_getElem? hx)).2
    omega
  · obtain ⟨i, hi⟩ := List.getElem?_of_mem h
    have hil : i < j := by
      have := (List.getElem?_eq_some_iff.1 hi).1
      simp at this
      omega
    rw [List.getElem?_take_of_lt hil] at hi
    have hl := (List.getElem?_eq_some_iff.1 hi).1
    have := (List.getElem?_inj hl k.1).1 (hi.trans hx.symm)
    omega
set_option maxRecDepth 100000 in
set_option maxHeartbeats 2000000 in
theorem check_any {w : World} {A : Option Addr} {n cap : Nat} {g : Nat → Nat} {σ : Nat → Sl} (h : Slvs w A n g σ) (hn : n ≤ 8) (B : Option Addr) (cb : Nat) (ids : List Int) (hr : Row w B (ints .i64 ids)) (hl : ids.length ≤ 1000000000000000) :
    Calls Try.prog 25 #[.slice A n cap, .slice B ids.length cb] w fun e w' => ∃ r : Int, e = .returned (.int .i64 r) ∧ Hid (((r = 0 ∧ Good ids) ∨ (r = 1 ∧ ¬ Good ids)) ∧ Keep Own.Zero w w') := by
  have H := Lib.hid h
  have HR := Lib.hid hr
  obtain ⟨L, hL⟩ : ∃ L, L = ids.length := ⟨_, rfl⟩
  have HL := Lib.hid hL
  rw [← hL] at hl ⊢
  clear h hr hL
  have hmm := @run_makeMap Try.prog
  go_enter Try.func25, Try.ntmps25
  go_wp2_with fail
  go_loopg [11] L (fun k s11 wr => ∃ j : Nat, j ≤ L ∧ k = L - j ∧ s11 = .int .i64 j ∧ Hid (IsSet wr w.heap.size (ids.take j) ∧ Good (ids.take j) ∧ Keep Own.Zero w wr))
  case atStart => exact ⟨0, by omega, rfl, rfl, by simpa using IsSet.new w, by simp [Good], (Keep.refl _ _).alloc _⟩
  case round =>
    obtain ⟨j, hj, hk, rfl, HT⟩ := hrel
    have HM := Lib.hid hk
    clear hk
    by_cases hlt : j < L
    · have h1 : (j : Int) < (L : Int) := by omega
      have h0 : (0 : Int) ≤ (j : Int) := by omega
      obtain ⟨x, hx⟩ : ∃ x, ids[j]? = some x := ⟨ids[j]'(by rw [← HL.out]; exact hlt), List.getElem?_eq_getElem _⟩
      obtain ⟨b, o, rfl, lb, gb⟩ := HR.out j (.int .i64 x) (by rw [ints_get, hx]; rfl)
      have gb2 := (HT.out.2.2.cell (p := ⟨b, o + j, none⟩) lb id).trans gb
      have lb2 : b < wr.heap.size := Nat.lt_of_lt_of_le lb HT.out.2.2.size
      have HX := Lib.hid hx
      clear gb lb hx
      by_cases hx1 : x < 1
      · have HN := Lib.hid (not_good HX.out (.inl hx1))
        go_wp2_with fail
        go_ret
        exact ⟨1, rfl, Lib.hid ⟨.inr ⟨rfl, HN.out⟩, HT.out.2.2⟩⟩
      · by_cases hx2 : 127 < x
        · have HN := Lib.hid (not_good HX.out (.inr (.inl hx2)))
          go_wp2_with fail
          go_ret
          exact ⟨1, rfl, Lib.hid ⟨.inr ⟨rfl, HN.out⟩, HT.out.2.2⟩⟩
        · have hlook := look_set HT.out.1 x
          by_cases hm : x ∈ ids.take j
          · rw [decide_eq_true hm] at hlook
            have HN := Lib.hid (not_good HX.out (.inr (.inr hm)))
            clear hm
            go_wp2_with fail
            go_ret
            exact ⟨1, rfl, Lib.hid ⟨.inr ⟨rfl, HN.out⟩, HT.out.2.2⟩⟩
          · rw [decide_eq_false hm] at hlook
            obtain ⟨w3, hput, hs3, hk3⟩ := put_set HT.out.1 x hm
            have HG3 := Lib.hid (HT.out.2.1.snoc HX.out (by omega) (by omega) hm)
            have HS3 : Hid (IsSet w3 w.heap.size (ids.take (j + 1))) := Lib.hid (by
              obtain ⟨es, clock, hb, q1, q2⟩ := hs3
              refine ⟨es, clock, hb, fun e he => ?_, fun k hk => ?_⟩
              · obtain ⟨k, hk, r⟩ := q1 e he
                exact ⟨k, by rw [List.take_add_one, HX.out]; simp only [Option.toList_some, List.mem_append, List.mem_singleton]; rcases List.mem_cons.1 hk with hk | hk; exact .inr hk; exact .inl hk, r⟩
              · rw [List.take_add_one, HX.out] at hk
                simp only [Option.toList_some, List.mem_append, List.mem_singleton] at hk
                exact q2 k (List.mem_cons.2 (hk.symm)))
            have HK3 : Hid (Keep Own.Zero w w3) := Lib.hid (HT.out.2.2.trans hk3 (fun i hi => .inr (by cases hi; exact Nat.le_refl _)))
            clear hm hs3 hk3
            go_wp2_with fail
            go_roundg (L - (j + 1))
            case measure => rw [HM.out]; omega
            case rel => exact ⟨j + 1, hlt, rfl, by go_num, HS3.out, HG3.out, HK3.out⟩
    · have HGood : Hid (Good ids) := Lib.hid (by
        have h2 := HT.out.2.1
        rw [List.take_of_length_le (by rw [← HL.out]; omega)] at h2
        exact h2)
      go_wp2_with fail
      refine (Contains_none (H.out.zero HT.out.2.2) hn).mono ?_
      rintro e w1 ⟨rfl, rfl⟩
      have hn2 : decide ((127 : Int) < (n : Int)) = false := by simp; omega
      go_wp2_with fail
      go_ret
      exact ⟨0, rfl, Lib.hid ⟨.inl ⟨rfl, HGood.out⟩, HT.out.2.2⟩⟩
end Go.Proofs.Ytcmfcnljdeddfaa.Num
