/- The teller's calls, as the laws use them: what always holds of it, and where it lies. -/
import Derived.Test.YtagklcmkdjgblaaEmcyM
namespace Go.Proofs.Ytagklcmkdjgblaa.Emcy
open Go.RowKit Go.Proofs.Ytagklcmkdjgblaa.Own
/-- What always holds of a teller: of such a history and quiet; not more than N errors. -/
structure Ok (m i : Int) (N : Nat) (t : Tl) : Prop where
  most : t.most = m
  inh : t.inhibit = i
  wf : ∀ x ∈ t.now, x.wf ∧ 256 ≤ x.code
  len : t.now.length ≤ N
  fr : t.fr.length ≤ 16
  q0 : 0 ≤ t.quiet
  q1 : t.quiet ≤ 4294967296
  hist : (t.hist.length : Int) ≤ t.most
  m0 : 1 ≤ m
  m1 : m ≤ 254
  i0 : 0 ≤ i
  i1 : i ≤ 4294967296
  frwf : ∀ f ∈ t.fr, 0 ≤ f.b0 ∧ f.b0 ≤ 255 ∧ 0 ≤ f.b1 ∧ f.b1 ≤ 255
def Liv (w wr : World) (g : Nat) (t : Tl) : Prop := ∃ S, IsT wr S g t ∧ (∀ k, S k → w.heap.size ≤ k ∧ k < wr.heap.size) ∧ Keep Zero w wr
theorem Liv.keep {w wr w1 : World} {g : Nat} {t : Tl} (h : Liv w wr g t) (k : Keep Zero wr w1) : Liv w w1 g t := by
  obtain ⟨S, h1, h2, h3⟩ := h
  exact ⟨S, h1.old k, fun i hi => ⟨(h2 i hi).1, Nat.lt_of_lt_of_le (h2 i hi).2 k.size⟩, h3.trans k (fun i hi => hi.elim)⟩
theorem Liv.old {w wr : World} {g : Nat} {t : Tl} (h : Liv w wr g t) : Keep Zero w wr := h.choose_spec.2.2
theorem Liv.turn {w wr w1 : World} {g : Nat} {t' : Tl} {S : Nat → Prop} (hS : ∀ k, S k → w.heap.size ≤ k ∧ k < wr.heap.size) (hk : Keep Zero w wr) (h1 : IsT w1 (More S wr w1) g t') (h2 : Keep S wr w1) : Liv w w1 g t' :=
  ⟨_, h1, fun k hk1 => hk1.elim (fun h => ⟨(hS k h).1, Nat.lt_of_lt_of_le (hS k h).2 h2.size⟩) (fun h => ⟨Nat.le_trans hk.size h.1, h.2⟩), hk.trans h2 (fun i hi => .inr (hS i hi).1)⟩
theorem Liv.lt {w wr : World} {g : Nat} {t : Tl} (h : Liv w wr g t) : g < wr.heap.size := by
  obtain ⟨S, ⟨_, _, _, _, _, _, h⟩, _⟩ := h
  exact h.blk.lt
section
variable {m i : Int} {N : Nat} {t : Tl}
theorem Ok.new (m i : Int) (m0 : 1 ≤ m) (m1 : m ≤ 254) (i0 : 0 ≤ i) (i1 : i ≤ 4294967296) : Ok m i 0 ⟨m, i, 0, [], [], []⟩ :=
  ⟨rfl, rfl, (fun _ h => by cases h), Nat.le_refl _, by simp, Int.le_refl _, by simp, by simp; omega, m0, m1, i0, i1, fun _ h => by cases h⟩
theorem Ok.more {N' : Nat} (h : Ok m i N t) (hn : N ≤ N') : Ok m i N' t := { h with len := Nat.le_trans h.len hn }
theorem Ok.wfs (h : Ok m i N t) : ∀ x ∈ t.now, x.wf := fun x hx => (h.wf x hx).1
theorem frame_wf (c r : Int) (c0 : 0 ≤ c) (c1 : c ≤ 65535) (x : Ex) : 0 ≤ (frameF c r x).b0 ∧ (frameF c r x).b0 ≤ 255 ∧ 0 ≤ (frameF c r x).b1 ∧ (frameF c r x).b1 ≤ 255 := by
  unfold frameF
  simp only
  omega
theorem Ok.tells (h : Ok m i N t) (c : Int) (c0 : 0 ≤ c) (c1 : c ≤ 65535) (x : Ex) : Ok m i N (t.tells c x) := by
  unfold Tl.tells
  split
  · refine { h with fr := by simp only [List.length_append, List.length_cons, List.length_nil]; omega, frwf := fun f hf => ?_ }
    rcases List.mem_append.1 hf with hf | hf
    · exact h.frwf f hf
    · rw [List.mem_singleton.1 hf]
      exact frame_wf c _ c0 c1 x
  · exact h
theorem Ok.raise (h : Ok m i N t) {x : Tr} (hx : x.wf) : Ok m i (N + 1) (t.raise x).2 := by
  unfold Tl.raise
  split
  · exact h.more (Nat.le_succ _)
  · rename_i hn
    have hx1 := hx
    unfold Tr.wf at hx1
    have hb : 256 ≤ x.code := by
      rcases Int.lt_or_le x.code 256 with h1 | h1
      · exact absurd (.inl h1) hn
      · exact h1
    refine Ok.tells (t := { t with now := t.now ++ [x], hist := (x :: t.hist).take t.most.toNat }) { h with wf := fun y hy => ?_, len := ?_, hist := ?_ } x.code (by omega) (by omega) x.ex
    · rcases List.mem_append.1 hy with hy | hy
      · exact h.wf y hy
      · rw [List.mem_singleton.1 hy]
        exact ⟨hx, hb⟩
    · have := h.len
      simp only [List.length_append, List.length_cons, List.length_nil]
      omega
    · have := h.most
      have := h.m0
      simp only [List.length_take]
      omega
theorem headCode_wf {l : List Tr} (h : ∀ x ∈ l, x.wf ∧ 256 ≤ x.code) : 0 ≤ headCode l ∧ headCode l ≤ 65535 ∧ (headCode l = 0 ↔ l = []) := by
  cases l with
  | nil => simp [headCode]
  | cons x l =>
    have h1 := h x (List.mem_cons_self ..)
    have h2 := h1.1
    unfold Tr.wf at h2
    simp only [headCode]
    exact ⟨by omega, by omega, ⟨fun e => by omega, fun e => by cases e⟩⟩
theorem Ok.clear (h : Ok m i N t) (c : Int) : Ok m i N (t.clear c).2 := by
  unfold Tl.clear
  split
  · exact h
  · have hw : ∀ x ∈ cut t.now (findF c t.now 0).toNat, x.wf ∧ 256 ≤ x.code := fun x hx => h.wf x (cut_mem hx)
    have hc := headCode_wf hw
    refine Ok.tells (t := { t with now := cut t.now (findF c t.now 0).toNat }) { h with wf := hw, len := ?_ } _ hc.1 hc.2.1 _
    have := h.len
    unfold cut
    simp only [List.length_append, List.length_take, List.length_drop]
    omega
theorem Ok.tick (h : Ok m i N t) : Ok m i N t.tick := by
  unfold Tl.tick
  have := h.q0
  have := h.q1
  refine { h with q0 := ?_, q1 := ?_ }
  · simp only; split <;> omega
  · simp only; split <;> omega
/-- Frame. -/
def Tl.frame (t : Tl) : Fr × Bool × Tl :=
  if 0 < t.quiet then (Fr.zero, false, t) else
    match t.fr with
    | [] => (Fr.zero, false, t)
    | f :: r => (f, true, { t with fr := r, quiet := t.inhibit })
theorem Ok.frame (h : Ok m i N t) : Ok m i N t.frame.2.2 := by
  unfold Tl.frame
  split
  · exact h
  · have hf := h.fr
    have hw := h.frwf
    split
    · exact h
    · rename_i f r e
      rw [e] at hf hw
      refine { h with fr := ?_, q0 := ?_, q1 := ?_, frwf := fun f hf => hw f (List.mem_cons_of_mem _ hf) }
      · simp only [List.length_cons] at hf
        simp only
        omega
      · have := h.inh
        have := h.i0
        simp only
        omega
      · have := h.inh
        have := h.i1
        simp only
        omega
end
def LPost (w : World) (g : Nat) (v : Value) (t' : Tl) (e : Ending) (w' : World) : Prop := e = .returned v ∧ Hid (Liv w w' g t')
section
variable {m i : Int} {N : Nat} {t : Tl} {w wr : World} {g : Nat}
theorem Raise_l (h : Liv w wr g t) (ho : Ok m i N t) (hN : N + 1 ≤ 17592186044416) (x : Tr) (hx : x.wf) : Calls Try.prog 8 #[.pointer (some ⟨g, 0, none⟩), x.v] wr (LPost w g (.bool (t.raise x).1) (t.raise x).2) := by
  obtain ⟨S, h1, h2, h3⟩ := h
  refine (Raise_any h1 (fun k hk => (h2 k hk).2) ho.wfs (by have := ho.len; omega) ho.fr (by rw [ho.most]; exact ho.m0) (by rw [ho.most]; exact ho.m1) ho.hist x hx).mono ?_
  rintro e w' ⟨rfl, hp⟩
  exact ⟨rfl, Liv.turn h2 h3 hp.out.1 hp.out.2⟩
theorem Clear_l (h : Liv w wr g t) (ho : Ok m i N t) (hN : N ≤ 1000000000000000) (c : Int) (c0 : 0 ≤ c) (c1 : c ≤ 65535) : Calls Try.prog 9 #[.pointer (some ⟨g, 0, none⟩), .int .u16 c] wr (LPost w g (.bool (t.clear c).1) (t.clear c).2) := by
  obtain ⟨S, h1, h2, h3⟩ := h
  refine (Clear_any h1 (fun k hk => (h2 k hk).2) ho.wfs (Nat.le_trans ho.len hN) ho.fr c c0 c1).mono ?_
  rintro e w' ⟨rfl, hp⟩
  exact ⟨rfl, Liv.turn h2 h3 hp.out.1 hp.out.2⟩
theorem Tick_l (h : Liv w wr g t) (ho : Ok m i N t) : Calls Try.prog 11 #[.pointer (some ⟨g, 0, none⟩)] wr (LPost w g (.bool (decide (t.tick.quiet = 0 ∧ 0 < t.fr.length))) t.tick) := by
  obtain ⟨S, h1, h2, h3⟩ := h
  refine (Tick_any h1 ho.q0 ho.q1 (by have := ho.fr; omega)).mono ?_
  rintro e w' ⟨rfl, hp1, hp2⟩
  exact ⟨rfl, S, hp1, fun k hk => ⟨(h2 k hk).1, Nat.lt_of_lt_of_le (h2 k hk).2 hp2.size⟩, h3.trans hp2 (fun i hi => .inr (h2 i hi).1)⟩
theorem Frame_l (h : Liv w wr g t) (ho : Ok m i N t) : Calls Try.prog 10 #[.pointer (some ⟨g, 0, none⟩)] wr (LPost w g (.tuple #[t.frame.1.v, .bool t.frame.2.1]) t.frame.2.2) := by
  obtain ⟨S, h1, h2, h3⟩ := h
  unfold Tl.frame
  split
  · rename_i hq
    refine (Frame_none h1 (.inl hq)).mono ?_
    rintro e w' ⟨rfl, hp⟩
    exact ⟨rfl, Liv.turn h2 h3 hp.out.1 hp.out.2⟩
  · rename_i hq
    have q0 := ho.q0
    have hl := ho.fr
    split
    · rename_i e
      refine (Frame_none h1 (.inr ⟨q0, e⟩)).mono ?_
      rintro e w' ⟨rfl, hp⟩
      exact ⟨rfl, Liv.turn h2 h3 hp.out.1 hp.out.2⟩
    · rename_i f r e
      refine (Frame_some h1 (fun k hk => (h2 k hk).2) (by omega) f r e (by omega)).mono ?_
      rintro e w' ⟨rfl, hp⟩
      exact ⟨rfl, Liv.turn h2 h3 hp.out.1 hp.out.2⟩
theorem Register_l (h : Liv w wr g t) (ho : Ok m i N t) (hN : N ≤ 1000000000000000) : Calls Try.prog 15 #[.pointer (some ⟨g, 0, none⟩)] wr fun e w' => e = .returned (.int .u8 (regF t.now)) ∧ Hid (Keep Zero wr w') := by
  obtain ⟨S, h1, h2, h3⟩ := h
  exact (Register_any h1 ho.wfs (Nat.le_trans ho.len hN)).mono (fun e w' h => h)
theorem Now_l (h : Liv w wr g t) (ho : Ok m i N t) (hN : N ≤ 17592186044416) : Calls Try.prog 14 #[.pointer (some ⟨g, 0, none⟩)] wr (ListPost wr t.now) := by
  obtain ⟨S, h1, h2, h3⟩ := h
  exact Now_any h1 (Nat.le_trans ho.len hN)
theorem History_l (h : Liv w wr g t) (ho : Ok m i N t) : Calls Try.prog 17 #[.pointer (some ⟨g, 0, none⟩)] wr (ListPost wr t.hist) := by
  obtain ⟨S, h1, h2, h3⟩ := h
  exact History_any h1 (by have := ho.hist; have := ho.most; have := ho.m1; omega)
theorem New_l (w0 : World) (hk0 : Keep Zero w0 w) (m q : Int) (m1 : 1 ≤ m) (m2 : m ≤ 254) (q2 : q ≤ 4294967296) :
    Calls Try.prog 7 #[.int .i64 m, .int .u64 q] w fun e w' => ∃ g, e = .returned (.tuple #[.pointer (some ⟨g, 0, none⟩), .int .i64 0]) ∧ Hid (Liv w0 w' g ⟨m, q, 0, [], [], []⟩ ∧ Keep Zero w w') := by
  refine (New_ok m q m1 m2 q2 w).mono ?_
  rintro e w' ⟨g, rfl, hp⟩
  refine ⟨g, rfl, ⟨_, hp.out.1, fun k hk => ?_, hk0.trans hp.out.2.1 (fun i hi => hi.elim)⟩, hp.out.2.1⟩
  have e : k = g := hk
  obtain ⟨_, _, _, _, _, _, h⟩ := hp.out.1
  have := h.blk.lt
  have := hp.out.2.2
  have := hk0.size
  omega
end
end Go.Proofs.Ytagklcmkdjgblaa.Emcy
