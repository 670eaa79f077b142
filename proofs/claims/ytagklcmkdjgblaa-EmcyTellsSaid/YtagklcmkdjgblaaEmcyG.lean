/- The teller's rows put anew; Frame, Clone, New, Forget. -/
import Derived.Test.YtagklcmkdjgblaaEmcyF
import Derived.Laws.ResultCell
namespace Go.Proofs.Ytagklcmkdjgblaa.Emcy
open Go.RowKit Go.Proofs.Ytagklcmkdjgblaa.Own
/-- A teller's blocks, and those that are new. -/
def More (S : Nat → Prop) (w w' : World) : Nat → Prop := fun k => S k ∨ (w.heap.size ≤ k ∧ k < w'.heap.size)
theorem keep_of_grown {w w1 : World} {row : Option Nat} {S : Nat → Prop} (h : w.grownBy w1 row) (hs : ∀ k, row = some k → S k) : Keep S w w1 :=
  ⟨h.os, h.tape, h.output, h.size, fun k hk hn => h.block k hk (fun e => hn (hs k e.symm))⟩
theorem grown_of_keep {w w1 : World} {g : Nat} (h : Keep (Own.One g) w w1) : w.grownBy w1 (some g) :=
  ⟨h.os, h.tape, h.output, h.size, fun k hk hn => h.block k hk (fun e => hn (congrArg some e))⟩
section
variable {w w1 : World} {S S' : Nat → Prop} {g : Nat} {t : Tl} {An Ah Af : Option Addr} {cn ch cf : Nat}
theorem row_keep {e : TypeId} {s n : Nat} {B : Option Addr} {c : Nat} {xs : List Value} {row : Option Nat} (h : w.ownsRow 0 e s (.slice B n c) n xs) (hk : w.grownBy w1 row) (hne : ∀ a, B = some a → row ≠ some a.block) : w1.ownsRow 0 e s (.slice B n c) n xs :=
  World.ownsRow.kept h hk (by
    rcases B with _ | a
    · exact .inl rfl
    · exact .inr (fun e => hne a rfl e.symm))
theorem set_keep {e : TypeId} {s n : Nat} {B : Option Addr} {c j : Nat} {v : Value} {xs : List Value} (h : w.ownsRow 0 e s (.slice B n c) n xs) (hne : ∀ a, B = some a → a.block ≠ g) : (w.setCell ⟨g, j, none⟩ v).ownsRow 0 e s (.slice B n c) n xs :=
  own_keep2 h ((Keep.refl (Own.One g) w).set1 j v) (fun i hi e => by obtain ⟨a, ha, rfl⟩ := own_in hi; exact hne a ha e)
theorem slice_row {A : Option Addr} {n c k : Nat} (h : (Value.slice A n c).ownBlock = some k) : ∃ a, A = some a ∧ a.block = k := own_in h
theorem IsTv.put5 (h : IsTv w S g t An cn Ah ch Af cf) {A : Option Addr} {c : Nat} {l : List Fr} (hk : w.grownBy w1 (Value.slice Af t.fr.length cf).ownBlock) (ho : w1.ownsRow 0 35 8 (.slice A l.length c) l.length (flatF l)) (hf : Fresh w (.slice Af t.fr.length cf) (.slice A l.length c))
    (hs : ∀ k, S k → S' k) (hs2 : ∀ a, A = some a → w.heap.size ≤ a.block → S' a.block) : IsTv (w1.setCell ⟨g, 5, none⟩ (.slice A l.length c)) S' g { t with fr := l } An cn Ah ch A c := by
  have hfar : ∀ b : Nat, b < w.heap.size → (∀ a, Af = some a → a.block ≠ b) → (Value.slice Af t.fr.length cf).ownBlock ≠ some b := fun b _ hb e => by
    obtain ⟨a, ha, rfl⟩ := own_in e
    exact hb a ha rfl
  have hnew : ∀ a, A = some a → (∃ a0, Af = some a0 ∧ a0.block = a.block) ∨ w.heap.size ≤ a.block := fun a ha => by
    rcases hf a.block (by subst ha; rfl) with e | e
    · exact .inl (own_in e)
    · exact .inr e
  have hb : Blk w1 g _ 55 := h.blk.grown hk (hfar g h.blk.lt (fun a ha => (h.sf a ha).2.1))
  have hA : ∀ a, A = some a → a.block ≠ g ∧ (∀ b, An = some b → a.block ≠ b.block) ∧ ∀ b, Ah = some b → a.block ≠ b.block := fun a ha => by
    rcases hnew a ha with ⟨a0, ha0, e⟩ | e
    · have := h.sf a0 ha0
      rw [e] at this
      exact this.2
    · exact ⟨fun e2 => by have := h.blk.lt; omega, fun b hb e2 => by have := (own_addr h.now b hb).2; omega, fun b hb e2 => by have := (own_addr h.hist b hb).2; omega⟩
  refine ⟨(hb.set 5 _).cast (by simp), set_keep (row_keep h.now hk (fun a ha => hfar _ (own_addr h.now a ha).2 (fun b hb e => (h.sf b hb).2.2.1 a ha e))) (fun a ha => (h.sn a ha).2),
    set_keep (row_keep h.hist hk (fun a ha => hfar _ (own_addr h.hist a ha).2 (fun b hb e => (h.sf b hb).2.2.2 a ha e))) (fun a ha => (h.sh a ha).2.1), set_keep ho (fun a ha => (hA a ha).1), hs _ h.sg, fun a ha => ⟨hs _ (h.sn a ha).1, (h.sn a ha).2⟩, fun a ha => ⟨hs _ (h.sh a ha).1, (h.sh a ha).2⟩, fun a ha => ⟨?_, hA a ha⟩⟩
  rcases hnew a ha with ⟨a0, ha0, e⟩ | e
  · rw [← e]
    exact hs _ (h.sf a0 ha0).1
  · exact hs2 a ha e
theorem IsTv.put4 (h : IsTv w S g t An cn Ah ch Af cf) {A : Option Addr} {c : Nat} {l : List Tr} (hk : w.grownBy w1 (Value.slice Ah t.hist.length ch).ownBlock) (ho : w1.ownsRow 0 33 7 (.slice A l.length c) l.length (flat l)) (hf : Fresh w (.slice Ah t.hist.length ch) (.slice A l.length c))
    (hs : ∀ k, S k → S' k) (hs2 : ∀ a, A = some a → w.heap.size ≤ a.block → S' a.block) : IsTv (w1.setCell ⟨g, 4, none⟩ (.slice A l.length c)) S' g { t with hist := l } An cn A c Af cf := by
  have hfar : ∀ b : Nat, b < w.heap.size → (∀ a, Ah = some a → a.block ≠ b) → (Value.slice Ah t.hist.length ch).ownBlock ≠ some b := fun b _ hb e => by
    obtain ⟨a, ha, rfl⟩ := own_in e
    exact hb a ha rfl
  have hnew : ∀ a, A = some a → (∃ a0, Ah = some a0 ∧ a0.block = a.block) ∨ w.heap.size ≤ a.block := fun a ha => by
    rcases hf a.block (by subst ha; rfl) with e | e
    · exact .inl (own_in e)
    · exact .inr e
  have hb : Blk w1 g _ 55 := h.blk.grown hk (hfar g h.blk.lt (fun a ha => (h.sh a ha).2.1))
  have hA : ∀ a, A = some a → a.block ≠ g ∧ (∀ b, An = some b → a.block ≠ b.block) ∧ ∀ b, Af = some b → b.block ≠ a.block := fun a ha => by
    rcases hnew a ha with ⟨a0, ha0, e⟩ | e
    · have := h.sh a0 ha0
      rw [e] at this
      exact ⟨this.2.1, this.2.2, fun b hb e2 => (h.sf b hb).2.2.2 a0 ha0 (e2.trans e.symm)⟩
    · exact ⟨fun e2 => by have := h.blk.lt; omega, fun b hb e2 => by have := (own_addr h.now b hb).2; omega, fun b hb e2 => by have := (own_addr h.fr b hb).2; omega⟩
  refine ⟨(hb.set 4 _).cast (by simp), set_keep (row_keep h.now hk (fun a ha => hfar _ (own_addr h.now a ha).2 (fun b hb e => (h.sh b hb).2.2 a ha e))) (fun a ha => (h.sn a ha).2),
    set_keep ho (fun a ha => (hA a ha).1), set_keep (row_keep h.fr hk (fun a ha => hfar _ (own_addr h.fr a ha).2 (fun b hb e => (h.sf a ha).2.2.2 b hb e.symm))) (fun a ha => (h.sf a ha).2.1), hs _ h.sg, fun a ha => ⟨hs _ (h.sn a ha).1, (h.sn a ha).2⟩, fun a ha => ⟨?_, (hA a ha).1, (hA a ha).2.1⟩, fun a ha => ⟨hs _ (h.sf a ha).1, (h.sf a ha).2.1, (h.sf a ha).2.2.1, fun b hb => (hA b hb).2.2 a ha⟩⟩
  rcases hnew a ha with ⟨a0, ha0, e⟩ | e
  · rw [← e]
    exact hs _ (h.sh a0 ha0).1
  · exact hs2 a ha e
theorem IsTv.put3 (h : IsTv w S g t An cn Ah ch Af cf) {A : Option Addr} {c : Nat} {l : List Tr} (hk : w.grownBy w1 (Value.slice An t.now.length cn).ownBlock) (ho : w1.ownsRow 0 33 7 (.slice A l.length c) l.length (flat l)) (hf : Fresh w (.slice An t.now.length cn) (.slice A l.length c))
    (hs : ∀ k, S k → S' k) (hs2 : ∀ a, A = some a → w.heap.size ≤ a.block → S' a.block) : IsTv (w1.setCell ⟨g, 3, none⟩ (.slice A l.length c)) S' g { t with now := l } A c Ah ch Af cf := by
  have hfar : ∀ b : Nat, b < w.heap.size → (∀ a, An = some a → a.block ≠ b) → (Value.slice An t.now.length cn).ownBlock ≠ some b := fun b _ hb e => by
    obtain ⟨a, ha, rfl⟩ := own_in e
    exact hb a ha rfl
  have hnew : ∀ a, A = some a → (∃ a0, An = some a0 ∧ a0.block = a.block) ∨ w.heap.size ≤ a.block := fun a ha => by
    rcases hf a.block (by subst ha; rfl) with e | e
    · exact .inl (own_in e)
    · exact .inr e
  have hb : Blk w1 g _ 55 := h.blk.grown hk (hfar g h.blk.lt (fun a ha => (h.sn a ha).2))
  have hA : ∀ a, A = some a → a.block ≠ g ∧ (∀ b, Ah = some b → b.block ≠ a.block) ∧ ∀ b, Af = some b → b.block ≠ a.block := fun a ha => by
    rcases hnew a ha with ⟨a0, ha0, e⟩ | e
    · have := h.sn a0 ha0
      rw [e] at this
      exact ⟨this.2, fun b hb e2 => (h.sh b hb).2.2 a0 ha0 (e2.trans e.symm), fun b hb e2 => (h.sf b hb).2.2.1 a0 ha0 (e2.trans e.symm)⟩
    · exact ⟨fun e2 => by have := h.blk.lt; omega, fun b hb e2 => by have := (own_addr h.hist b hb).2; omega, fun b hb e2 => by have := (own_addr h.fr b hb).2; omega⟩
  refine ⟨(hb.set 3 _).cast (by simp), set_keep ho (fun a ha => (hA a ha).1), set_keep (row_keep h.hist hk (fun a ha => hfar _ (own_addr h.hist a ha).2 (fun b hb e => (h.sh a ha).2.2 b hb e.symm))) (fun a ha => (h.sh a ha).2.1),
    set_keep (row_keep h.fr hk (fun a ha => hfar _ (own_addr h.fr a ha).2 (fun b hb e => (h.sf a ha).2.2.1 b hb e.symm))) (fun a ha => (h.sf a ha).2.1), hs _ h.sg, fun a ha => ⟨?_, (hA a ha).1⟩, fun a ha => ⟨hs _ (h.sh a ha).1, (h.sh a ha).2.1, fun b hb => (hA b hb).2.1 a ha⟩, fun a ha => ⟨hs _ (h.sf a ha).1, (h.sf a ha).2.1, fun b hb => (hA b hb).2.2 a ha, (h.sf a ha).2.2.2⟩⟩
  rcases hnew a ha with ⟨a0, ha0, e⟩ | e
  · rw [← e]
    exact hs _ (h.sn a0 ha0).1
  · exact hs2 a ha e
end

theorem New_ok (m q : Int) (m1 : 1 ≤ m) (m2 : m ≤ 254) (q2 : q ≤ 4294967296) (w : World) :
    Calls Try.prog 7 #[.int .i64 m, .int .u64 q] w fun e w' => ∃ g, e = .returned (.tuple #[.pointer (some ⟨g, 0, none⟩), .int .i64 0]) ∧ Hid (IsT w' (Own.One g) g ⟨m, q, 0, [], [], []⟩ ∧ Keep Zero w w' ∧ w.heap.size ≤ g) := by
  have b1 : decide (m < 1) = false := by simp; omega
  have b2 : decide (254 < m) = false := by simp; omega
  have b3 : decide (4294967296 < q) = false := by simp; omega
  go_enter Try.func7, Try.ntmps7
  go_wp2
  go_ret2
  exact ⟨_, rfl, ⟨none, 0, none, 0, none, 0, Blk.new _ _ _, own_nil _ _ _ _, own_nil _ _ _ _, own_nil _ _ _ _, rfl, (fun _ h => by cases h), (fun _ h => by cases h), (fun _ h => by cases h)⟩, (Keep.refl _ _).alloc _, Nat.le_refl _⟩
theorem New_bad (m q : Int) (h : ¬ (1 ≤ m ∧ m ≤ 254 ∧ q ≤ 4294967296)) (w : World) :
    Calls Try.prog 7 #[.int .i64 m, .int .u64 q] w fun e w' => e = .returned (.tuple #[.pointer none, .int .i64 1]) ∧ w = w' := by
  by_cases h1 : m < 1
  · have b1 : decide (m < 1) = true := decide_eq_true h1
    clear h h1
    go_enter Try.func7, Try.ntmps7
    go_wp2
    go_ret2
    exact ⟨rfl, rfl⟩
  by_cases h2 : 254 < m
  · have b1 : decide (m < 1) = false := decide_eq_false h1
    have b2 : decide (254 < m) = true := decide_eq_true h2
    clear h h1 h2
    go_enter Try.func7, Try.ntmps7
    go_wp2
    go_ret2
    exact ⟨rfl, rfl⟩
  have b1 : decide (m < 1) = false := decide_eq_false h1
  have b2 : decide (254 < m) = false := decide_eq_false h2
  have b3 : decide (4294967296 < q) = true := decide_eq_true (by omega)
  clear h h1 h2
  go_enter Try.func7, Try.ntmps7
  go_wp2
  go_ret2
  exact ⟨rfl, rfl⟩
theorem Forget_any {w : World} {S : Nat → Prop} {g : Nat} {t : Tl} (h : IsT w S g t) :
    Calls Try.prog 22 #[.pointer (some ⟨g, 0, none⟩)] w fun e w' => e = .returned (.tuple #[]) ∧ Hid (IsT w' S g { t with hist := [] } ∧ Keep S w w') := by
  obtain ⟨An, cn, Ah, ch, Af, cf, h⟩ := h
  have c4 := h.blk.cell 4
  have f4 := h.blk.frozen 4
  have glt := h.blk.lt
  have H := Lib.hid h
  clear h
  go_enter Try.func22, Try.ntmps22
  go_wp2_with fail
  go_end0
  refine ⟨rfl, ⟨An, cn, none, 0, Af, cf, ?_⟩, (Keep.refl _ _).set (.inl H.out.sg) _⟩
  have k : Keep (Own.One g) w (w.setCell ⟨g, 4, none⟩ (.slice none 0 0)) := (Keep.refl _ _).set1 _ _
  exact ⟨(H.out.blk.set 4 _).cast (by simp), set_keep H.out.now (fun a ha => (H.out.sn a ha).2), own_nil _ _ _ _, set_keep H.out.fr (fun a ha => (H.out.sf a ha).2.1), H.out.sg, H.out.sn, (fun a ha => by cases ha), fun a ha => ⟨(H.out.sf a ha).1, (H.out.sf a ha).2.1, (H.out.sf a ha).2.2.1, fun b hb => by cases hb⟩⟩
def ListPost (w : World) (l : List Tr) (e : Ending) (w' : World) : Prop := ∃ A c, e = .returned (.slice A l.length c) ∧ Hid (Trs w' A l ∧ Keep Zero w w' ∧ ∀ a, A = some a → w.heap.size ≤ a.block)
set_option maxHeartbeats 1000000 in
theorem Clone_any {w : World} (A : Option Addr) (c : Nat) (l : List Tr) (h : Trs w A l) (hnil : A = none → c = 0) (hl : l.length ≤ 17592186044416) :
    Calls Try.prog 29 #[.slice A l.length c] w (ListPost w l) := by
  have q22 : ∀ (w : World) (a : Option Addr) (n c n' c' : Nat), (binOp .eql 22 (.slice a n c) (.slice none n' c')).run Try.prog w = .ok (.bool a.isNone) w := fun w a n c n' c' => Lib.run_eql_slice_nil w _ _ a n c n' c' under22
  rcases A with _ | a
  · obtain rfl : l = [] := by
      rcases l with _ | ⟨t, l⟩
      · rfl
      · obtain ⟨b, o, e, _⟩ := h 0 (.int .u16 t.code) rfl
        cases e
    obtain rfl : c = 0 := hnil rfl
    clear h hnil hl
    go_enter Try.func29, Try.ntmps29
    go_wp2
    go_ret
    exact ⟨none, 0, rfl, Row.nil _ _, Keep.refl _ _, fun a h => by cases h⟩
  · have HR := Lib.hid h
    obtain ⟨n, hn⟩ : ∃ n, n = l.length := ⟨_, rfl⟩
    have HN := Lib.hid hn
    have HF : Hid ((flat l).length = n * 7) := Lib.hid (by rw [flat_length, hn])
    rw [← hn] at hl ⊢
    clear h hnil hn
    go_enter Try.func29, Try.ntmps29
    go_wp2_with (at_builtin; refine app_copy rfl (.tmp 5) (.tmp 6) 22 rfl 33 trZ 7 8 under22 info33 rfl (by decide) w.heap.size rfl (Blk.new _ _ _) (some a) n c (flat l) rfl HF.out (fun h => by cases h) (Row.keep HR.out ((Keep.refl Zero w).alloc _) (fun _ _ _ => id)) (flat_one_cell l) (by unfold maxLen; omega) (by omega) ?_; intro A' c' w' hc hm hr hk hb)
    go_ret
    exact ⟨A', c', by rw [HN.out]; rfl, hr, ((Keep.refl Zero w).alloc _).trans hk (fun i hi => .inr (by have e : i = w.heap.size := hi; omega)), hb⟩
theorem Now_any {w : World} {S : Nat → Prop} {g : Nat} {t : Tl} (h : IsT w S g t) (hl : t.now.length ≤ 17592186044416) : Calls Try.prog 14 #[.pointer (some ⟨g, 0, none⟩)] w (ListPost w t.now) := by
  obtain ⟨An, cn, Ah, ch, Af, cf, h⟩ := h
  have c3 := h.blk.cell 3
  have glt := h.blk.lt
  have HR := Lib.hid (And.intro (own_trs h.now) (own_le h.now).2.2)
  obtain ⟨l, hle⟩ : ∃ l, l = t.now := ⟨_, rfl⟩
  rw [← hle] at HR hl ⊢
  obtain ⟨n, hn⟩ : ∃ n, n = l.length := ⟨_, rfl⟩
  have HN := Lib.hid hn
  have c3' : w.cell? ⟨g, 3, none⟩ = some (.slice An n cn) := by rw [hn, hle]; exact c3
  clear h c3 hn hle
  go_enter Try.func14, Try.ntmps14
  go_wp2_with fail
  rw [HN.out]
  refine (Clone_any An cn l HR.out.1 (fun h => (HR.out.2 h).2) hl).mono ?_
  rintro e w' ⟨A', c', rfl, hp⟩
  go_wp2_with fail
  go_ret
  exact ⟨A', c', rfl, hp⟩
theorem History_any {w : World} {S : Nat → Prop} {g : Nat} {t : Tl} (h : IsT w S g t) (hl : t.hist.length ≤ 17592186044416) : Calls Try.prog 17 #[.pointer (some ⟨g, 0, none⟩)] w (ListPost w t.hist) := by
  obtain ⟨An, cn, Ah, ch, Af, cf, h⟩ := h
  have c3 := h.blk.cell 4
  have glt := h.blk.lt
  have HR := Lib.hid (And.intro (own_trs h.hist) (own_le h.hist).2.2)
  obtain ⟨l, hle⟩ : ∃ l, l = t.hist := ⟨_, rfl⟩
  rw [← hle] at HR hl ⊢
  obtain ⟨n, hn⟩ : ∃ n, n = l.length := ⟨_, rfl⟩
  have HN := Lib.hid hn
  have c3' : w.cell? ⟨g, 4, none⟩ = some (.slice Ah n ch) := by rw [hn, hle]; exact c3
  clear h c3 hn hle
  go_enter Try.func17, Try.ntmps17
  go_wp2_with fail
  rw [HN.out]
  refine (Clone_any Ah ch l HR.out.1 (fun h => (HR.out.2 h).2) hl).mono ?_
  rintro e w' ⟨A', c', rfl, hp⟩
  go_wp2_with fail
  go_ret
  exact ⟨A', c', rfl, hp⟩
end Go.Proofs.Ytagklcmkdjgblaa.Emcy
