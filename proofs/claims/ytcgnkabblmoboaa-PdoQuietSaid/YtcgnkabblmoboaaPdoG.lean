/- What the taker comes to. -/
import Derived.Test.YtcgnkabblmoboaaPdoF
namespace Go.Proofs.Ytcgnkabblmoboaa.Pdo
open Go.RowKit Go.Proofs.Ytcgnkabblmoboaa.Own
theorem under29 : Try.prog.underlying 29 = some (.slice 5) := by kernel_rfl
theorem under5 : Try.prog.underlying 5 = some (.int .u8) := by kernel_rfl
theorem under9 : Try.prog.underlying 9 = some .string := by kernel_rfl
theorem info5 : (Try.prog.info? 5).map (fun i => (i.zero, i.size, i.bytes)) = some (some (.int .u8 0), 1, 1) := by kernel_rfl
def ClonePost (w : World) (xs : List Int) (e : Ending) (w' : World) : Prop := ∃ A c, e = .returned (.slice A xs.length c) ∧ Row w' A (ints .u8 xs) ∧ xs.length ≤ c ∧ Keep Zero w w' ∧ ∀ a, A = some a → w.heap.size ≤ a.block
set_option maxHeartbeats 1000000 in
theorem Clone_any {w : World} (A : Option Addr) (c : Nat) (xs : List Int) (hr : Row w A (ints .u8 xs)) (hc : xs.length ≤ c) (hn : A = none → c = 0) (hl : xs.length ≤ 140737488355328) :
    Calls Try.prog 26 #[.slice A xs.length c] w (ClonePost w xs) := by
  rcases A with _ | ad
  · obtain rfl : c = 0 := hn rfl
    obtain rfl : xs = [] := List.eq_nil_of_length_eq_zero (by omega)
    clear hr hc hn hl
    have hq : Sem.run Try.prog (binOp .eql 29 (.slice none 0 0) (.slice none 0 0)) w = .ok (.bool true) w := Lib.run_eql_slice_nil w 29 5 none 0 0 0 0 under29
    go_enter Try.func26, Try.ntmps26
    go_wp2
    go_ret
    exact ⟨none, 0, rfl, Row.nil _ _, Nat.le_refl _, Keep.refl _ _, (fun a h => by cases h)⟩
  · have HR := Lib.hid hr
    have HC := Lib.hid hc
    obtain ⟨n, hn0⟩ : ∃ n, n = xs.length := ⟨_, rfl⟩
    have HN := Lib.hid hn0
    rw [← hn0]
    clear hr hc hn hn0
    have hl' : Hid (xs.length ≤ 140737488355328) := Lib.hid hl
    clear hl
    have hq : Sem.run Try.prog (binOp .eql 29 (.slice (some ad) n c) (.slice none 0 0)) w = .ok (.bool false) w := Lib.run_eql_slice_nil w 29 5 (some ad) n c 0 0 under29
    go_enter Try.func26, Try.ntmps26
    go_wp2_with (at_builtin; refine app_copy rfl (.tmp 5) (.tmp 6) 29 rfl 5 (.int .u8 0) 1 1 under29 info5 rfl (by decide) w.heap.size rfl (Blk.new _ _ _) (some ad) n c (ints .u8 xs) rfl (by rw [ints_length, HN.out]; omega) (fun h => by cases h) (Row.keep (w := w) HR.out ((Keep.refl Zero _).alloc _) (fun _ _ _ => id)) (ints_one _ _) (by have := hl'.out; have := HN.out; unfold maxLen; omega) (by have := hl'.out; have := HN.out; omega) ?_; intro A' c' w2 hc2 _ hr2 hk2 ha2)
    go_ret
    unfold ClonePost
    rw [← HN.out]
    exact ⟨A', c', rfl, hr2, hc2, ((Keep.refl Zero w).alloc _).trans hk2 (fun i hi => .inr (by cases hi; exact Nat.le_refl _)), ha2⟩
structure Tk where
  typ : Int
  on : Bool
  A : Option Addr
  n : Nat
  c : Nat
  has : Bool
def Tk.cells (t : Tk) : Array Value := #[.int .i64 t.typ, .bool t.on, .slice t.A t.n t.c, .bool t.has]
def IsTk (w : World) (g : Nat) (t : Tk) : Prop := Blk w g t.cells 57
theorem IsTk.keep {S : Nat → Prop} {w w1 : World} {g : Nat} {p : Tk} (h : IsTk w g p) (k : Keep S w w1) (hn : ¬ S g) : IsTk w1 g p := Blk.keep h k hn
theorem IsTk.facts {w : World} {g : Nat} {s : Tk} (h : IsTk w g s) :
    w.cell? ⟨g, 0, none⟩ = some (.int .i64 s.typ) ∧ w.cell? ⟨g, 1, none⟩ = some (.bool s.on) ∧ w.cell? ⟨g, 2, none⟩ = some (.slice s.A s.n s.c) ∧ w.cell? ⟨g, 3, none⟩ = some (.bool s.has) ∧
    w.frozen? ⟨g, 1, none⟩ = false ∧ w.frozen? ⟨g, 2, none⟩ = false ∧ w.frozen? ⟨g, 3, none⟩ = false :=
  ⟨h.cell 0, h.cell 1, h.cell 2, h.cell 3, h.frozen 1, h.frozen 2, h.frozen 3⟩
theorem NewT_bad (t : Int) (hb : isB t = false) (w : World) : Calls Try.prog 8 #[.int .i64 t] w fun e w' => e = .returned (.tuple #[.pointer none, .int .i64 1]) ∧ w = w' := by
  have F := Lib.hid hb
  clear hb
  go_enter Try.func8, Try.ntmps8
  go_wp2_with ((with_reducible refine (is_any t _ F.out _).mono ?_); rintro e w' ⟨rfl, rfl⟩)
  go_ret2
  exact ⟨rfl, rfl⟩
def Tk.new (t : Int) : Tk := ⟨t, false, none, 0, 0, false⟩
theorem NewT_ok (t : Int) (hb : isB t = true) (w : World) : Calls Try.prog 8 #[.int .i64 t] w fun e w' => ∃ g, e = .returned (.tuple #[.pointer (some ⟨g, 0, none⟩), .int .i64 0]) ∧ IsTk w' g (Tk.new t) ∧ w.heap.size ≤ g ∧ Keep Zero w w' := by
  have F := Lib.hid hb
  clear hb
  go_enter Try.func8, Try.ntmps8
  go_wp2_with ((with_reducible refine (is_any t _ F.out _).mono ?_); rintro e w' ⟨rfl, rfl⟩)
  go_ret2
  exact ⟨_, rfl, Blk.new _ _ _, Nat.le_refl _, (Keep.refl _ _).alloc _⟩
def Tk.start (s : Tk) (b : Bool) : Tk := if b && !s.on then { s with on := b, A := none, n := 0, c := 0, has := false } else { s with on := b }
def TStartPost (w : World) (g : Nat) (s : Tk) (b : Bool) (e : Ending) (w' : World) : Prop := e = .returned (.tuple #[]) ∧ IsTk w' g (s.start b) ∧ Keep (One g) w w'
set_option maxHeartbeats 2000000 in
theorem TStart_any {w : World} {g : Nat} {s : Tk} (h : IsTk w g s) (b : Bool) : Calls Try.prog 14 #[.pointer (some ⟨g, 0, none⟩), .bool b] w (TStartPost w g s b) := by
  obtain ⟨c0, c1, c2, c3, f1, f2, f3⟩ := h.facts
  have H := Lib.hid h
  clear h
  cases hb : b && !s.on with
  | true =>
    obtain ⟨rfl, ho⟩ : b = true ∧ s.on = false := by simpa using hb
    have e : s.start true = { s with on := true, A := none, n := 0, c := 0, has := false } := by simp [Tk.start, ho]
    have E := Lib.hid e
    clear hb e
    go_enter Try.func14, Try.ntmps14
    go_wp2
    go_end0
    refine ⟨rfl, ?_, ?_⟩
    · rw [E.out]
      apply Blk.cast
      · repeat (first | (with_reducible first | apply Blk.set | apply Blk.drewN | apply Blk.drew) | exact H.out)
      · simp [Tk.cells]
    · repeat (with_reducible first | exact Keep.refl _ _ | apply Keep.set1 | apply Keep.drewN | apply Keep.drew)
  | false =>
    have e : s.start b = { s with on := b } := by simp [Tk.start, hb]
    have E := Lib.hid e
    have hb' : b = false ∨ (b = true ∧ s.on = true) := by cases b <;> simp_all
    clear hb e
    rcases hb' with rfl | ⟨rfl, ho⟩
    all_goals
      go_enter Try.func14, Try.ntmps14
      go_wp2
      go_end0
      refine ⟨rfl, ?_, ?_⟩
      · rw [E.out]
        apply Blk.cast
        · repeat (first | (with_reducible first | apply Blk.set | apply Blk.drewN | apply Blk.drew) | exact H.out)
        · simp [Tk.cells]
      · repeat (with_reducible first | exact Keep.refl _ _ | apply Keep.set1 | apply Keep.drewN | apply Keep.drew)
set_option maxHeartbeats 2000000 in
theorem TTake_off {w : World} {g : Nat} {s : Tk} (h : IsTk w g s) (ho : s.on = false) (v : Value) : Calls Try.prog 11 #[.pointer (some ⟨g, 0, none⟩), v] w fun e w' => e = .returned (.tuple #[.slice none 0 0, .bool false]) ∧ w = w' := by
  obtain ⟨c0, c1, c2, c3, f1, f2, f3⟩ := h.facts
  have H := Lib.hid h
  rw [ho] at c1
  clear h ho
  go_enter Try.func11, Try.ntmps11
  go_wp2
  go_ret2
  exact ⟨rfl, rfl⟩
def TakenPost (w : World) (xs : List Int) (e : Ending) (w' : World) : Prop := ∃ A c, e = .returned (.tuple #[.slice A xs.length c, .bool true]) ∧ Row w' A (ints .u8 xs) ∧ xs.length ≤ c ∧ Keep Zero w w' ∧ ∀ a, A = some a → w.heap.size ≤ a.block
set_option maxHeartbeats 2000000 in
theorem TTake_free {w : World} {g : Nat} {s : Tk} (h : IsTk w g s) (ho : s.on = true) (hf : freeB s.typ = true) (A : Option Addr) (c : Nat) (xs : List Int) (hr : Row w A (ints .u8 xs)) (hc : xs.length ≤ c) (hn : A = none → c = 0) (hl : xs.length ≤ 140737488355328) :
    Calls Try.prog 11 #[.pointer (some ⟨g, 0, none⟩), .slice A xs.length c] w (TakenPost w xs) := by
  obtain ⟨c0, c1, c2, c3, f1, f2, f3⟩ := h.facts
  have H := Lib.hid h
  have F := Lib.hid hf
  have HR := Lib.hid (And.intro hr (And.intro hc (And.intro hn hl)))
  rw [ho] at c1
  clear h ho hf hr hc hn hl
  go_enter Try.func11, Try.ntmps11
  go_wp2_with (((with_reducible refine (free_any s.typ _ F.out _).mono ?_); rintro e w' ⟨rfl, rfl⟩))
  refine (Clone_any A c xs HR.out.1 HR.out.2.1 HR.out.2.2.1 HR.out.2.2.2).mono ?_
  rintro e w2 ⟨A', c', rfl, h1, h2, h4, h5⟩
  have P := Lib.hid (And.intro h1 (And.intro h2 (And.intro h4 h5)))
  clear h1 h2 h4 h5
  go_wp2
  go_ret2
  exact ⟨A', c', rfl, P.out.1, P.out.2.1, P.out.2.2.1, P.out.2.2.2⟩
def KeptPost (w : World) (g : Nat) (s : Tk) (xs : List Int) (e : Ending) (w' : World) : Prop := e = .returned (.tuple #[.slice none 0 0, .bool false]) ∧ ∃ A c, IsTk w' g { s with A := A, n := xs.length, c := c, has := true } ∧ Row w' A (ints .u8 xs) ∧ xs.length ≤ c ∧ Keep (One g) w w' ∧ ∀ a, A = some a → w.heap.size ≤ a.block
set_option maxHeartbeats 2000000 in
theorem TTake_sync {w : World} {g : Nat} {s : Tk} (h : IsTk w g s) (ho : s.on = true) (hf : freeB s.typ = false) (A : Option Addr) (c : Nat) (xs : List Int) (hr : Row w A (ints .u8 xs)) (hc : xs.length ≤ c) (hn : A = none → c = 0) (hl : xs.length ≤ 140737488355328) :
    Calls Try.prog 11 #[.pointer (some ⟨g, 0, none⟩), .slice A xs.length c] w (KeptPost w g s xs) := by
  obtain ⟨c0, c1, c2, c3, f1, f2, f3⟩ := h.facts
  have H := Lib.hid h
  have F := Lib.hid hf
  have HR := Lib.hid (And.intro hr (And.intro hc (And.intro hn hl)))
  have HO := Lib.hid ho
  rw [ho] at c1
  clear h ho hf hr hc hn hl
  go_enter Try.func11, Try.ntmps11
  go_wp2_with (((with_reducible refine (free_any s.typ _ F.out _).mono ?_); rintro e w' ⟨rfl, rfl⟩))
  refine (Clone_any A c xs HR.out.1 HR.out.2.1 HR.out.2.2.1 HR.out.2.2.2).mono ?_
  rintro e w2 ⟨A', c', rfl, h1, h2, h4, h5⟩
  have P := Lib.hid (And.intro h1 (And.intro h2 (And.intro h4 h5)))
  have H2 := Lib.hid (IsTk.keep H.out h4 id)
  clear h1 h2 h4 h5 c0 c1 c2 c3 f1 f2 f3
  obtain ⟨c0, c1, c2, c3, f1, f2, f3⟩ := H2.out.facts
  go_wp2
  go_ret2
  refine ⟨rfl, A', c', ?_, ?_, P.out.2.1, ?_, P.out.2.2.2⟩
  · apply Blk.cast
    · repeat (first | (with_reducible first | apply Blk.set | apply Blk.drewN | apply Blk.drew) | exact H2.out)
    · simp [Tk.cells]
  · refine P.out.1.keep (w1 := _) ((Keep.refl (One g) w2).set1 2 _ |>.set1 3 _) (fun a ha _ e => ?_)
    have := P.out.2.2.2 a ha
    have := H.out.lt
    unfold Own.One at e
    omega
  · exact (Keep.mono P.out.2.2.1 (fun i hi => hi.elim)).set1 2 _ |>.set1 3 _
def Tk.gone (s : Tk) : Tk := { s with A := none, n := 0, c := 0, has := false }
def TSyncPost (w : World) (g : Nat) (s : Tk) (e : Ending) (w' : World) : Prop := if s.on && s.has then e = .returned (.tuple #[.slice s.A s.n s.c, .bool true]) ∧ IsTk w' g s.gone ∧ Keep (One g) w w' else e = .returned (.tuple #[.slice none 0 0, .bool false]) ∧ IsTk w' g s ∧ Keep (One g) w w'
set_option maxHeartbeats 2000000 in
theorem TSync_any {w : World} {g : Nat} {s : Tk} (h : IsTk w g s) : Calls Try.prog 13 #[.pointer (some ⟨g, 0, none⟩)] w (TSyncPost w g s) := by
  obtain ⟨c0, c1, c2, c3, f1, f2, f3⟩ := h.facts
  have H := Lib.hid h
  clear h
  cases ho : s.on with
  | false =>
    have E : Hid ((s.on && s.has) = false) := Lib.hid (by rw [ho]; rfl)
    rw [ho] at c1
    clear ho
    go_enter Try.func13, Try.ntmps13
    go_wp2
    go_ret2
    unfold TSyncPost
    rw [E.out]
    exact ⟨rfl, H.out, Keep.refl _ _⟩
  | true =>
    cases hh : s.has with
    | false =>
      have E : Hid ((s.on && s.has) = false) := Lib.hid (by rw [ho, hh]; rfl)
      rw [ho] at c1
      rw [hh] at c3
      clear ho hh
      go_enter Try.func13, Try.ntmps13
      go_wp2
      go_ret2
      unfold TSyncPost
      rw [E.out]
      exact ⟨rfl, H.out, Keep.refl _ _⟩
    | true =>
      have E : Hid ((s.on && s.has) = true) := Lib.hid (by rw [ho, hh]; rfl)
      rw [ho] at c1
      rw [hh] at c3
      clear ho hh
      go_enter Try.func13, Try.ntmps13
      go_wp2
      go_ret2
      unfold TSyncPost
      rw [E.out]
      refine ⟨rfl, ?_, ?_⟩
      · apply Blk.cast
        · repeat (first | (with_reducible first | apply Blk.set | apply Blk.drewN | apply Blk.drew) | exact H.out)
        · simp [Tk.cells, Tk.gone]
      · repeat (with_reducible first | exact Keep.refl _ _ | apply Keep.set1 | apply Keep.drewN | apply Keep.drew)
end Go.Proofs.Ytcgnkabblmoboaa.Pdo
