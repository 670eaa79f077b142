/- The teller's calls, beside blocks that are not its own. -/
import Derived.Test.YtagklcmkdjgblaaEmcyN
namespace Go.Proofs.Ytagklcmkdjgblaa.Emcy
open Go.RowKit Go.Proofs.Ytagklcmkdjgblaa.Own
/-- A teller, and blocks F that are none of its. -/
def LivX (w wr : World) (g : Nat) (t : Tl) (F : Nat → Prop) : Prop := ∃ S, IsT wr S g t ∧ (∀ k, S k → w.heap.size ≤ k ∧ k < wr.heap.size) ∧ Keep Zero w wr ∧ ∀ k, F k → k < wr.heap.size ∧ ¬ S k
/-- All blocks but those of F. -/
def Non (F : Nat → Prop) : Nat → Prop := fun k => ¬ F k
def XPost (w wr : World) (g : Nat) (F : Nat → Prop) (v : Value) (t' : Tl) (e : Ending) (w' : World) : Prop := e = .returned v ∧ Hid (LivX w w' g t' F ∧ Keep (Non F) wr w')
section
variable {m i : Int} {N : Nat} {t t' : Tl} {w wr w1 : World} {g : Nat} {F F' S : Nat → Prop}
theorem LivX.old (h : LivX w wr g t F) : Keep Zero w wr := h.choose_spec.2.2.1
theorem LivX.liv (h : LivX w wr g t F) : Liv w wr g t := by
  obtain ⟨S, h1, h2, h3, _⟩ := h
  exact ⟨S, h1, h2, h3⟩
/-- Others write to F, and make new blocks. -/
theorem LivX.other (h : LivX w wr g t F) (k : Keep F wr w1) (hF : ∀ i, F i → w.heap.size ≤ i) : LivX w w1 g t (fun k => F k ∨ (wr.heap.size ≤ k ∧ k < w1.heap.size)) := by
  obtain ⟨S, ⟨_, _, _, _, _, _, h1⟩, h2, h3, h4⟩ := h
  refine ⟨S, ⟨_, _, _, _, _, _, h1.keep k (fun i hi hf => (h4 i hf).2 hi)⟩, fun i hi => ⟨(h2 i hi).1, Nat.lt_of_lt_of_le (h2 i hi).2 k.size⟩, h3.trans k (fun i hi => .inr (hF i hi)), fun i hi => ?_⟩
  rcases hi with hi | hi
  · exact ⟨Nat.lt_of_lt_of_le (h4 i hi).1 k.size, (h4 i hi).2⟩
  · exact ⟨hi.2, fun hs => by have := (h2 i hs).2; omega⟩
theorem LivX.less (h : LivX w wr g t F) (hF : ∀ i, F' i → F i) : LivX w wr g t F' := by
  obtain ⟨S, h1, h2, h3, h4⟩ := h
  exact ⟨S, h1, h2, h3, fun k hk => h4 k (hF k hk)⟩
theorem LivX.keep (h : LivX w wr g t F) (k : Keep Zero wr w1) : LivX w w1 g t F := by
  obtain ⟨S, h1, h2, h3, h4⟩ := h
  exact ⟨S, h1.old k, fun i hi => ⟨(h2 i hi).1, Nat.lt_of_lt_of_le (h2 i hi).2 k.size⟩, h3.trans k (fun i hi => hi.elim), fun i hi => ⟨Nat.lt_of_lt_of_le (h4 i hi).1 k.size, (h4 i hi).2⟩⟩
theorem LivX.turn (hS : ∀ k, S k → w.heap.size ≤ k ∧ k < wr.heap.size) (hk : Keep Zero w wr) (hF : ∀ k, F k → k < wr.heap.size ∧ ¬ S k) (h1 : IsT w1 (More S wr w1) g t') (h2 : Keep S wr w1) : LivX w w1 g t' F ∧ Keep (Non F) wr w1 :=
  ⟨⟨_, h1, fun k hk1 => hk1.elim (fun h => ⟨(hS k h).1, Nat.lt_of_lt_of_le (hS k h).2 h2.size⟩) (fun h => ⟨Nat.le_trans hk.size h.1, h.2⟩), hk.trans h2 (fun i hi => .inr (hS i hi).1), fun k hf => ⟨Nat.lt_of_lt_of_le (hF k hf).1 h2.size, fun hs => hs.elim (hF k hf).2 (fun h => by have := (hF k hf).1; omega)⟩⟩,
    h2.mono (fun k hs hf => (hF k hf).2 hs)⟩
theorem Raise_x (h : LivX w wr g t F) (ho : Ok m i N t) (hN : N + 1 ≤ 17592186044416) (x : Tr) (hx : x.wf) : Calls Try.prog 8 #[.pointer (some ⟨g, 0, none⟩), x.v] wr (XPost w wr g F (.bool (t.raise x).1) (t.raise x).2) := by
  obtain ⟨S, h1, h2, h3, h4⟩ := h
  refine (Raise_any h1 (fun k hk => (h2 k hk).2) ho.wfs (by have := ho.len; omega) ho.fr (by rw [ho.most]; exact ho.m0) (by rw [ho.most]; exact ho.m1) ho.hist x hx).mono ?_
  rintro e w' ⟨rfl, hp⟩
  exact ⟨rfl, LivX.turn h2 h3 h4 hp.out.1 hp.out.2⟩
theorem Clear_x (h : LivX w wr g t F) (ho : Ok m i N t) (hN : N ≤ 1000000000000000) (c : Int) (c0 : 0 ≤ c) (c1 : c ≤ 65535) : Calls Try.prog 9 #[.pointer (some ⟨g, 0, none⟩), .int .u16 c] wr (XPost w wr g F (.bool (t.clear c).1) (t.clear c).2) := by
  obtain ⟨S, h1, h2, h3, h4⟩ := h
  refine (Clear_any h1 (fun k hk => (h2 k hk).2) ho.wfs (Nat.le_trans ho.len hN) ho.fr c c0 c1).mono ?_
  rintro e w' ⟨rfl, hp⟩
  exact ⟨rfl, LivX.turn h2 h3 h4 hp.out.1 hp.out.2⟩
theorem Tick_x (h : LivX w wr g t F) (ho : Ok m i N t) : Calls Try.prog 11 #[.pointer (some ⟨g, 0, none⟩)] wr (XPost w wr g F (.bool (decide (t.tick.quiet = 0 ∧ 0 < t.fr.length))) t.tick) := by
  obtain ⟨S, h1, h2, h3, h4⟩ := h
  refine (Tick_any h1 ho.q0 ho.q1 (by have := ho.fr; omega)).mono ?_
  rintro e w' ⟨rfl, hp1, hp2⟩
  exact ⟨rfl, LivX.turn h2 h3 h4 (IsT.more hp1 (fun k hk => .inl hk)) hp2⟩
theorem Frame_x (h : LivX w wr g t F) (ho : Ok m i N t) : Calls Try.prog 10 #[.pointer (some ⟨g, 0, none⟩)] wr (XPost w wr g F (.tuple #[t.frame.1.v, .bool t.frame.2.1]) t.frame.2.2) := by
  obtain ⟨S, h1, h2, h3, h4⟩ := h
  unfold Tl.frame
  split
  · rename_i hq
    refine (Frame_none h1 (.inl hq)).mono ?_
    rintro e w' ⟨rfl, hp⟩
    exact ⟨rfl, LivX.turn h2 h3 h4 hp.out.1 hp.out.2⟩
  · rename_i hq
    have q0 := ho.q0
    have hl := ho.fr
    split
    · rename_i e
      refine (Frame_none h1 (.inr ⟨q0, e⟩)).mono ?_
      rintro e w' ⟨rfl, hp⟩
      exact ⟨rfl, LivX.turn h2 h3 h4 hp.out.1 hp.out.2⟩
    · rename_i f r e
      refine (Frame_some h1 (fun k hk => (h2 k hk).2) (by omega) f r e (by omega)).mono ?_
      rintro e w' ⟨rfl, hp⟩
      exact ⟨rfl, LivX.turn h2 h3 h4 hp.out.1 hp.out.2⟩
theorem Forget_x (h : LivX w wr g t F) : Calls Try.prog 22 #[.pointer (some ⟨g, 0, none⟩)] wr (XPost w wr g F (.tuple #[]) { t with hist := [] }) := by
  obtain ⟨S, h1, h2, h3, h4⟩ := h
  refine (Forget_any h1).mono ?_
  rintro e w' ⟨rfl, hp⟩
  exact ⟨rfl, LivX.turn h2 h3 h4 (IsT.more hp.out.1 (fun k hk => .inl hk)) hp.out.2⟩
theorem New_x (w0 : World) (hk0 : Keep Zero w0 w) (m q : Int) (m1 : 1 ≤ m) (m2 : m ≤ 254) (q2 : q ≤ 4294967296) :
    Calls Try.prog 7 #[.int .i64 m, .int .u64 q] w fun e w' => ∃ g, e = .returned (.tuple #[.pointer (some ⟨g, 0, none⟩), .int .i64 0]) ∧ Hid (LivX w0 w' g ⟨m, q, 0, [], [], []⟩ Zero ∧ Keep Zero w w') := by
  refine (New_l w0 hk0 m q m1 m2 q2).mono ?_
  rintro e w' ⟨g, rfl, hp⟩
  obtain ⟨S, h1, h2, h3⟩ := hp.out.1
  exact ⟨g, rfl, ⟨S, h1, h2, h3, fun k hk => hk.elim⟩, hp.out.2⟩
theorem Trs.far {A : Option Addr} {l : List Tr} (h : Trs wr A l) (k : Keep (Non F) wr w1) (hF : l ≠ [] → ∀ a, A = some a → F a.block) : Trs w1 A l :=
  Row.keep h k (fun a ha hn hf => hf (hF (fun e => hn (by rw [e]; rfl)) a ha))
end
end Go.Proofs.Ytagklcmkdjgblaa.Emcy
