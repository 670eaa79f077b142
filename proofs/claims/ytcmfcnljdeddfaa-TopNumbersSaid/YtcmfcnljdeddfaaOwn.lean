/- Words of our own on memory: a block that is known whole, and what a call leaves as it was. -/
import Derived.Test.YtcmfcnljdeddfaaProg
import Derived.Below
import Derived.Deep.Draws
import Derived.WalkKit
import Derived.KernelRfl
import Derived.RowKit3
import Derived.Deep.LoopGhost
import Derived.Deep.QuietTactic
import Derived.BigQuiet
import Derived.WalkLawsBesides
import Derived.WalkSpells
import Derived.Laws.AppendOwnNone
import Derived.Lib.Hide
namespace Go.Proofs.Ytcmfcnljdeddfaa.Own
open Go.RowKit

/-- Block g of w is known whole. -/
def Blk (w : World) (g : Nat) (cs : Array Value) (T : TypeId) : Prop := w.heap[g]? = some (.cells cs T (0, 0))

theorem heap_alloc_new (w : World) (o : Go.Obj) : (w.alloc o).heap[w.heap.size]? = some o := by
  show (w.heap.push o)[w.heap.size]? = _
  simp

section
variable {w w1 w2 : World} {g : Nat} {cs : Array Value} {T : TypeId}
theorem Blk.lt (h : Blk w g cs T) : g < w.heap.size := by
  unfold Blk at h
  exact (Array.getElem?_eq_some_iff.1 h).1
theorem Blk.cell (h : Blk w g cs T) (j : Nat) : w.cell? ⟨g, j, none⟩ = cs[j]? := by
  unfold Blk at h
  simp [World.cell?, h]
theorem Blk.frozen (h : Blk w g cs T) (j : Nat) : w.frozen? ⟨g, j, none⟩ = false := by
  unfold Blk at h
  simp [World.frozen?, h]
theorem Blk.set (h : Blk w g cs T) (j : Nat) (v : Value) : Blk (w.setCell ⟨g, j, none⟩ v) g (cs.setIfInBounds j v) T := by
  have hl := h.lt
  unfold Blk at h ⊢
  simp only [World.setCell, Array.getElem?_modify, if_true, h, Option.map_some]
  simp
theorem Blk.far (h : Blk w g cs T) {p : Addr} (hne : p.block ≠ g) (v : Value) : Blk (w.setCell p v) g cs T := by
  unfold Blk at h ⊢
  rw [Below.heap_setCell _ _ _ _ (fun e => hne e.symm)]
  exact h
theorem Blk.alloc (h : Blk w g cs T) (o : Go.Obj) : Blk (w.alloc o) g cs T := by
  have hl := h.lt
  unfold Blk at h ⊢
  rw [Below.heap_alloc _ _ _ hl]
  exact h
theorem Blk.drewN (h : Blk w g cs T) (n : Nat) : Blk (w.drewN n) g cs T := h
theorem Blk.drew (h : Blk w g cs T) : Blk w.drew g cs T := h
theorem Blk.new (w : World) (cs : Array Value) (T : TypeId) : Blk (w.alloc (.cells cs T)) w.heap.size cs T := heap_alloc_new w _
theorem Blk.cast {cs' : Array Value} (h : Blk w g cs T) (e : cs = cs') : Blk w g cs' T := e ▸ h
end

/-- All blocks of w but those of S are in w' as they were; the streams too. -/
structure Keep (S : Nat → Prop) (w w' : World) : Prop where
  os : w'.os = w.os
  tape : w'.tape = w.tape
  output : w'.output = w.output
  size : w.heap.size ≤ w'.heap.size
  block : ∀ k, k < w.heap.size → ¬ S k → w'.heap[k]? = w.heap[k]?

section
variable {S S' : Nat → Prop} {w w1 w2 : World} {g : Nat} {cs : Array Value} {T : TypeId}
theorem Keep.refl (S : Nat → Prop) (w : World) : Keep S w w := ⟨rfl, rfl, rfl, Nat.le_refl _, fun _ _ _ => rfl⟩
theorem Keep.trans (h : Keep S w w1) (k : Keep S' w1 w2) (hs : ∀ i, S' i → S i ∨ w.heap.size ≤ i) : Keep S w w2 :=
  ⟨k.os.trans h.os, k.tape.trans h.tape, k.output.trans h.output, Nat.le_trans h.size k.size, fun i hi hn =>
    (k.block i (Nat.lt_of_lt_of_le hi h.size) (fun hk => (hs i hk).elim hn (fun hl => absurd hi (Nat.not_lt.2 hl)))).trans (h.block i hi hn)⟩
theorem Keep.mono (h : Keep S w w1) (hs : ∀ i, S i → S' i) : Keep S' w w1 := ⟨h.os, h.tape, h.output, h.size, fun i hi hn => h.block i hi (fun k => hn (hs i k))⟩
theorem Keep.alloc (h : Keep S w w1) (o : Go.Obj) : Keep S w (w1.alloc o) :=
  ⟨h.os, h.tape, h.output, by have := h.size; simp only [World.size_alloc]; omega, fun i hi hn => (Below.heap_alloc _ _ _ (Nat.lt_of_lt_of_le hi h.size)).trans (h.block i hi hn)⟩
theorem Keep.drewN (h : Keep S w w1) (n : Nat) : Keep S w (w1.drewN n) := ⟨h.os, h.tape, h.output, h.size, h.block⟩
theorem Keep.drew (h : Keep S w w1) : Keep S w w1.drew := ⟨h.os, h.tape, h.output, h.size, h.block⟩
theorem Keep.set (h : Keep S w w1) {p : Addr} (hp : S p.block ∨ w.heap.size ≤ p.block) (v : Value) : Keep S w (w1.setCell p v) :=
  ⟨h.os, h.tape, h.output, by have := h.size; simp only [World.size_setCell]; omega, fun i hi hn => (Below.heap_setCell _ _ _ _ (fun e => by
    subst e
    rcases hp with hp | hp
    · exact hn hp
    · omega)).trans (h.block i hi hn)⟩
theorem Keep.below (h : Keep S w w1) (hs : ∀ i, S i → w.heap.size ≤ i) : Below w.heap.size w w1 := ⟨h.os, h.tape, h.output, h.size, fun i hi => h.block i hi (fun k => absurd hi (Nat.not_lt.2 (hs i k)))⟩
theorem Keep.of_below (h : Below w.heap.size w w1) (S : Nat → Prop) : Keep S w w1 := ⟨h.os, h.tape, h.output, h.size, fun i hi _ => h.block i hi⟩
theorem Keep.grown {row : Option Nat} (h : Keep S w w1) (hg : w1.grownBy w2 row) (hr : ∀ k, row = some k → S k ∨ w.heap.size ≤ k) : Keep S w w2 :=
  ⟨hg.os.trans h.os, hg.tape.trans h.tape, hg.output.trans h.output, Nat.le_trans h.size hg.size, fun i hi hn =>
    (hg.block i (Nat.lt_of_lt_of_le hi h.size) (fun e => by
      rcases hr i e.symm with hk | hk
      · exact hn hk
      · omega)).trans (h.block i hi hn)⟩
theorem Blk.keep (h : Blk w g cs T) (k : Keep S w w1) (hn : ¬ S g) : Blk w1 g cs T := (k.block g h.lt hn).trans h
theorem Keep.cell (k : Keep S w w1) {p : Addr} (hl : p.block < w.heap.size) (hn : ¬ S p.block) : w1.cell? p = w.cell? p := World.cell?_of_block (w := w) (k.block p.block hl hn)
theorem Keep.frozen (k : Keep S w w1) {p : Addr} (hl : p.block < w.heap.size) (hn : ¬ S p.block) : w1.frozen? p = w.frozen? p := World.frozen?_of_block (w := w) (k.block p.block hl hn)
end

/-- No block but those that are new. -/
def Zero : Nat → Prop := fun _ => False
/-- One block. -/
def One (g : Nat) : Nat → Prop := fun k => k = g
theorem One.self (g : Nat) : One g g := rfl

/-- Cells that are read at an address. -/
def Row (w : World) (A : Option Addr) (vs : List Value) : Prop := ∀ i v, vs[i]? = some v → ∃ b o, A = some ⟨b, o, none⟩ ∧ b < w.heap.size ∧ w.cell? ⟨b, o + i, none⟩ = some v
def ints (k : IntKind) (xs : List Int) : List Value := xs.map (Value.int k)
theorem ints_length (k : IntKind) (xs : List Int) : (ints k xs).length = xs.length := List.length_map _
theorem ints_append (k : IntKind) (xs ys : List Int) : ints k (xs ++ ys) = ints k xs ++ ints k ys := List.map_append
theorem ints_get (k : IntKind) (xs : List Int) (i : Nat) : (ints k xs)[i]? = (xs[i]?).map (Value.int k) := List.getElem?_map
theorem ints_one (k : IntKind) (xs : List Int) : ∀ u ∈ ints k xs, u.oneCell' = true := fun u hu => by
  obtain ⟨x, _, rfl⟩ := List.mem_map.1 hu
  rfl
theorem Row.nil (w : World) (A : Option Addr) : Row w A [] := fun i x h => by simp at h
theorem Row.head {w : World} {A : Option Addr} {v : Value} {vs : List Value} (h : Row w A (v :: vs)) :
    ∃ b o, A = some ⟨b, o, none⟩ ∧ b < w.heap.size ∧ ∀ i y, (v :: vs)[i]? = some y → w.cell? ⟨b, o + i, none⟩ = some y := by
  obtain ⟨b, o, rfl, hl, hc⟩ := h 0 v rfl
  refine ⟨b, o, rfl, hl, fun i y hy => ?_⟩
  obtain ⟨b', o', e, _, hc'⟩ := h i y hy
  cases e
  exact hc'
theorem Row.keep {S : Nat → Prop} {w w1 : World} {A : Option Addr} {vs : List Value} (h : Row w A vs) (hk : Keep S w w1) (hs : ∀ a, A = some a → vs ≠ [] → ¬ S a.block) : Row w1 A vs := fun i x hx => by
  obtain ⟨b, o, rfl, hl, hc⟩ := h i x hx
  exact ⟨b, o, rfl, Nat.lt_of_lt_of_le hl hk.size, (hk.cell (p := ⟨b, o + i, none⟩) hl (hs ⟨b, o, none⟩ rfl (by rintro rfl; simp at hx))).trans hc⟩
theorem Row.blk {w : World} {g : Nat} {vs : List Value} {cs : Array Value} {T : TypeId} (h : Blk w g cs T) (he : ∀ (i : Nat) (v : Value), vs[i]? = some v → cs[i]? = some v) : Row w (some ⟨g, 0, none⟩) vs := fun i v hv =>
  ⟨g, 0, rfl, h.lt, by rw [h.cell]; simpa using he i v hv⟩
theorem Row.own {w : World} {base : Nat} {e : TypeId} {size n : Nat} {v : Value} {vs : List Value} (h : w.ownsRow base e size v n vs) :
    ∃ A c, v = .slice A n c ∧ Row w A vs ∧ n ≤ c ∧ c ≤ maxLen ∧ ∀ a, A = some a → base ≤ a.block := by
  obtain ⟨hl, h | ⟨g, cap, cur, rfl, hb, hh, hn, hm, hcs, ht⟩⟩ := h
  · obtain ⟨rfl, rfl⟩ := h
    obtain rfl : vs = [] := List.eq_nil_of_length_eq_zero (by simpa using hl)
    exact ⟨none, 0, rfl, Row.nil _ _, Nat.le_refl _, Nat.zero_le _, fun a ha => by cases ha⟩
  · refine ⟨some ⟨g, 0, none⟩, cap, rfl, ?_, hn, hm, fun a ha => by cases ha; exact hb⟩
    refine Row.blk (cs := cur) (T := e) hh fun i v hv => ?_
    subst ht
    have hi := (List.getElem?_eq_some_iff.1 hv).1
    rw [List.getElem?_take, if_pos (by simp at hi; omega)] at hv
    rw [Array.getElem?_toList] at hv
    exact hv
theorem own_block {w : World} {base : Nat} {e : TypeId} {size n : Nat} {v : Value} {vs : List Value} (h : w.ownsRow base e size v n vs) (k : Nat) (hk : v.ownBlock = some k) : base ≤ k := by
  obtain ⟨_, ⟨rfl, _⟩ | ⟨g, cap, cur, rfl, hb, _⟩⟩ := h
  · simp [Value.ownBlock] at hk
  · simp [Value.ownBlock] at hk
    omega
theorem own_nil (w : World) (base : Nat) (e : TypeId) (size : Nat) : w.ownsRow base e size (.slice none 0 0) 0 [] := ⟨by simp, .inl ⟨rfl, rfl⟩⟩
theorem own_keep {w w1 : World} {base : Nat} {e : TypeId} {size n : Nat} {v : Value} {vs : List Value} {S : Nat → Prop} (h : w.ownsRow base e size v n vs) (k : Keep S w w1) (hs : ∀ i, S i → i < base) : w1.ownsRow base e size v n vs := by
  obtain ⟨hl, h | ⟨g, cap, cur, hv, hb, hh, r⟩⟩ := h
  · exact ⟨hl, .inl h⟩
  · exact ⟨hl, .inr ⟨g, cap, cur, hv, hb, (k.block g (Array.getElem?_eq_some_iff.1 hh).1 (fun e => by have := hs g e; omega)).trans hh, r⟩⟩
theorem Blk.grown {w w1 : World} {g : Nat} {cs : Array Value} {T : TypeId} {row : Option Nat} (h : Blk w g cs T) (hg : w.grownBy w1 row) (hn : row ≠ some g) : Blk w1 g cs T :=
  (hg.block g h.lt (fun e => hn e.symm)).trans h
theorem own_empty {w : World} {g : Nat} {e : TypeId} (size : Nat) (h : Blk w g #[] e) : w.ownsRow g e size (.slice (some ⟨g, 0, none⟩) 0 0) 0 [] :=
  ⟨by simp, .inr ⟨g, 0, #[], rfl, Nat.le_refl _, h, Nat.le_refl _, Nat.zero_le _, by simp, by simp⟩⟩

section
variable {P : Program} {w : World} {ops : Array Oper} {rest : List Oper} {o : Oper} {a : Act} {K : Act → World → Prop} {Q : Exit → Act → World → Prop}
/-- append(v, row...) of a slice of the call's own: the row may be nil. -/
theorem wp_app (s x : Operand) (t : TypeId)
    (ho : o.op = .call { callee := .builtin .append, args := #[s, x], argTypes := #[t, t] })
    (base : Nat) (e : TypeId) (z : Value) (size bytes : Nat) (ht : P.underlying t = some (.slice e)) (hi : (P.info? e).map (fun i => (i.zero, i.size, i.bytes)) = some (some z, size, bytes))
    (hzs : z.cells.size = size) (hsz : 0 < size)
    (v : Value) (n : Nat) (xs : List Value) (hs : a.eval s = v) (hown : w.ownsRow base e size v n xs)
    (A : Option Addr) (m c : Nat) (news : List Value) (hx : a.eval x = .slice A m c) (hl : news.length = m * size) (hnil : A = none → c = 0) (hnews : Row w A news) (h1 : ∀ u ∈ news, u.oneCell' = true)
    (h63 : n + m ≤ maxLen) (hbytes : (n + m) * bytes ≤ 140737488355328) (hbase : base ≤ w.heap.size)
    (h : ∀ v' w', w'.ownsRow base e size v' (n + m) (xs ++ news) → w.grownBy w' v.ownBlock → K (a.put o.dst v') w') : o.wp P a w K Q := by
  obtain ⟨i, hi0, hz, hsize, hby⟩ := info_parts hi
  rcases A with _ | ad
  · have : news = [] := by
      rcases news with _ | ⟨u, r⟩
      · rfl
      · obtain ⟨b, o, e, _⟩ := hnews 0 u rfl
        cases e
    subst this
    obtain rfl : m = 0 := by
      rcases Nat.eq_zero_or_pos m with h0 | h0
      · exact h0
      · have := Nat.mul_pos h0 hsz
        simp at hl
        omega
    rw [hnil rfl] at hx
    have hrun := run_append_owned_none (P := P) (w := w) base t o.type e i size ht hi0 v n xs hown
    unfold Oper.wp
    simp [execOp, ho, resolve, invoke, builtin, hs, hx, hrun, Result.andThen]
    exact h v w (by simpa using hown) (World.grownBy.refl w _)
  · exact wp_append_own w s x t ho base e i z size bytes ht hi0 hz hsize hby hzs hsz v n xs hs hown ad m c news hx hl (fun j u hu => by
      obtain ⟨b, o, e, _, hc⟩ := hnews j u hu
      cases e
      rw [show (⟨b, o, none⟩ : Addr).add j = ⟨b, o + j, none⟩ from by unfold Addr.add; split <;> simp_all]
      exact hc) h1 h63 hbytes hbase fun v' w' h2 h3 _ => h v' w' h2 h3

theorem app_own (hgd : o.guard = none) (s x : Operand) (t : TypeId)
    (ho : o.op = .call { callee := .builtin .append, args := #[s, x], argTypes := #[t, t] })
    (base : Nat) (e : TypeId) (z : Value) (size bytes : Nat) (ht : P.underlying t = some (.slice e)) (hi : (P.info? e).map (fun i => (i.zero, i.size, i.bytes)) = some (some z, size, bytes))
    (hzs : z.cells.size = size) (hsz : 0 < size)
    (v : Value) (n : Nat) (xs : List Value) (hs : a.eval s = v) (hown : w.ownsRow base e size v n xs)
    (A : Option Addr) (m c : Nat) (news : List Value) (hx : a.eval x = .slice A m c) (hl : news.length = m * size) (hnil : A = none → c = 0) (hnews : Row w A news) (h1 : ∀ u ∈ news, u.oneCell' = true)
    (h63 : n + m ≤ maxLen) (hbytes : (n + m) * bytes ≤ 140737488355328) (hbase : base ≤ w.heap.size)
    (h : ∀ v' w', w'.ownsRow base e size v' (n + m) (xs ++ news) → w.grownBy w' v.ownBlock → wpList P ops Q rest (a.put o.dst v') w') : wpList P ops Q (o :: rest) a w :=
  wpList_plain hgd fun _ hK => wp_app s x t ho base e z size bytes ht hi hzs hsz v n xs hs hown A m c news hx hl hnil hnews h1 h63 hbytes hbase fun v' w' q1 q2 => hK _ _ (h v' w' q1 q2)
/-- append([]T{}, row...): a copy. -/
theorem wp_copy (s x : Operand) (t : TypeId)
    (ho : o.op = .call { callee := .builtin .append, args := #[s, x], argTypes := #[t, t] })
    (e : TypeId) (z : Value) (size bytes : Nat) (ht : P.underlying t = some (.slice e)) (hi : (P.info? e).map (fun i => (i.zero, i.size, i.bytes)) = some (some z, size, bytes))
    (hzs : z.cells.size = size) (hsz : 0 < size)
    (g : Nat) (hs : a.eval s = .slice (some ⟨g, 0, none⟩) 0 0) (hb : Blk w g #[] e)
    (A : Option Addr) (m c : Nat) (news : List Value) (hx : a.eval x = .slice A m c) (hl : news.length = m * size) (hnil : A = none → c = 0) (hnews : Row w A news) (h1 : ∀ u ∈ news, u.oneCell' = true)
    (h63 : m ≤ maxLen) (hbytes : m * bytes ≤ 140737488355328)
    (h : ∀ A' c' w', m ≤ c' → c' ≤ maxLen → Row w' A' news → Keep (One g) w w' → (∀ a, A' = some a → g ≤ a.block) → K (a.put o.dst (.slice A' m c')) w') : o.wp P a w K Q := by
  refine wp_app s x t ho g e z size bytes ht hi hzs hsz _ 0 [] hs (own_empty size hb) A m c news hx hl hnil hnews h1 (by omega) (by simpa using hbytes) (Nat.le_of_lt hb.lt) ?_
  intro v' w' hown hgr
  simp only [Nat.zero_add, List.nil_append] at hown
  obtain ⟨A', c', rfl, hr, hc, hm, hbase⟩ := Row.own hown
  exact h A' c' w' hc hm hr ((Keep.refl (One g) w).grown hgr (fun k hk => .inl (by simpa [Value.ownBlock, One] using hk.symm))) hbase
theorem app_copy (hgd : o.guard = none) (s x : Operand) (t : TypeId)
    (ho : o.op = .call { callee := .builtin .append, args := #[s, x], argTypes := #[t, t] })
    (e : TypeId) (z : Value) (size bytes : Nat) (ht : P.underlying t = some (.slice e)) (hi : (P.info? e).map (fun i => (i.zero, i.size, i.bytes)) = some (some z, size, bytes))
    (hzs : z.cells.size = size) (hsz : 0 < size)
    (g : Nat) (hs : a.eval s = .slice (some ⟨g, 0, none⟩) 0 0) (hb : Blk w g #[] e)
    (A : Option Addr) (m c : Nat) (news : List Value) (hx : a.eval x = .slice A m c) (hl : news.length = m * size) (hnil : A = none → c = 0) (hnews : Row w A news) (h1 : ∀ u ∈ news, u.oneCell' = true)
    (h63 : m ≤ maxLen) (hbytes : m * bytes ≤ 140737488355328)
    (h : ∀ A' c' w', m ≤ c' → c' ≤ maxLen → Row w' A' news → Keep (One g) w w' → (∀ a, A' = some a → g ≤ a.block) → wpList P ops Q rest (a.put o.dst (.slice A' m c')) w') : wpList P ops Q (o :: rest) a w :=
  wpList_plain hgd fun _ hK => wp_copy s x t ho e z size bytes ht hi hzs hsz g hs hb A m c news hx hl hnil hnews h1 h63 hbytes fun A' c' w' q1 q2 q3 q4 q5 => hK _ _ (h A' c' w' q1 q2 q3 q4 q5)
/-- The same at a step of a region that draws its order. -/
theorem step_copy {E : Prop} (hgd : o.guard = none) (s x : Operand) (t : TypeId)
    (ho : o.op = .call { callee := .builtin .append, args := #[s, x], argTypes := #[t, t] })
    (e : TypeId) (z : Value) (size bytes : Nat) (ht : P.underlying t = some (.slice e)) (hi : (P.info? e).map (fun i => (i.zero, i.size, i.bytes)) = some (some z, size, bytes))
    (hzs : z.cells.size = size) (hsz : 0 < size)
    (g : Nat) (hs : a.eval s = .slice (some ⟨g, 0, none⟩) 0 0) (hb : Blk w g #[] e)
    (A : Option Addr) (m c : Nat) (news : List Value) (hx : a.eval x = .slice A m c) (hl : news.length = m * size) (hnil : A = none → c = 0) (hnews : Row w A news) (h1 : ∀ u ∈ news, u.oneCell' = true)
    (h63 : m ≤ maxLen) (hbytes : m * bytes ≤ 140737488355328)
    (h : ∀ A' c' w', m ≤ c' → c' ≤ maxLen → Row w' A' news → Keep (One g) w w' → (∀ a, A' = some a → g ≤ a.block) → K (a.put o.dst (.slice A' m c')) w') :
    if Region.wanted o (yielded ops a.tmps) = true then Oper.wp P o a w K Q else E := by
  rw [if_pos (by simp [Region.wanted, hgd])]
  exact wp_copy s x t ho e z size bytes ht hi hzs hsz g hs hb A m c news hx hl hnil hnews h1 h63 hbytes h
end

theorem Blk.at_ {w : World} {cs : Array Value} {T : TypeId} {n : Nat} (hn : n = w.heap.size) : Blk (w.alloc (.cells cs T)) n cs T := hn ▸ Blk.new w cs T
theorem Keep.set1 {w w1 : World} {g : Nat} (h : Keep (One g) w w1) (j : Nat) (v : Value) : Keep (One g) w (w1.setCell ⟨g, j, none⟩ v) := h.set (.inl (One.self g)) v

theorem Row.old {w : World} {A : Option Addr} {vs : List Value} (h : Row w A vs) {a : Addr} (ha : A = some a) (hn : vs ≠ []) : a.block < w.heap.size := by
  rcases vs with _ | ⟨v, r⟩
  · exact absurd rfl hn
  · obtain ⟨b, o, e, hl, _⟩ := h 0 v rfl
    rw [ha] at e
    cases e
    exact hl
theorem ints_ne {k : IntKind} {xs : List Int} (h : xs ≠ []) : ints k xs ≠ [] := fun e => h (by cases xs with | nil => rfl | cons x r => simp [ints] at e)

theorem cell_off {w : World} {g i j : Nat} {v u : Value} (hn : i ≠ j) (h : w.cell? ⟨g, j, none⟩ = some u) : (w.setCell ⟨g, i, none⟩ v).cell? ⟨g, j, none⟩ = some u :=
  (World.cell?_setCell_other w ⟨g, i, none⟩ ⟨g, j, none⟩ v (fun e => hn (by injection e))).trans h
theorem cell_drew {w : World} {a : Addr} {u : Value} (h : w.cell? a = some u) : w.drew.cell? a = some u := h

/-- For go_quiet: a callee that leaves the world as it is. -/
theorem quiet_eq {P : Program} {f : FuncId} {args : Array Value} {w : World} {n : Nat} {v : Value}
    (h : Calls P f args (w.drewN n) fun e w' => e = .returned v ∧ w.drewN n = w') : Calls P f args (w.drewN n) fun e w'' => e = .returned v ∧ ∃ m, w'' = w.drewN m :=
  h.mono fun _ _ ⟨he, hm⟩ => ⟨he, n, hm.symm⟩

/-- A string of numbers. -/
def str (xs : List Int) : ByteArray := xs.foldl (fun r n => r.push (UInt8.ofNat n.toNat)) ByteArray.empty
theorem run_str {P : Program} {w : World} {src dst e : TypeId} {A : Option Addr} {c : Nat} {xs : List Int} (hs : P.underlying src = some (.slice e)) (he : P.underlying e = some (.int .u8)) (hd : P.underlying dst = some .string)
    (h : Row w A (ints .u8 xs)) (n : Nat) (hn : n = xs.length) : (convert src dst (.slice A n c)).run P w = .ok (.string (str xs)) w := by
  subst hn
  rcases xs with _ | ⟨x, r⟩
  · rcases A with _ | ad
    · exact run_convert_bytes_nil w src e hs he 0 c dst hd
    · rw [run_convert_bytes_string w src dst e _ _ c hs he hd, run_bytesToString w ad _ c [] (by
        have := run_loadCells_list (P := P) w ad [] (fun j v hj => by simp at hj)
        simpa using this)]
      rfl
  · obtain ⟨b, o, rfl, _, hc⟩ := Row.head (v := .int .u8 x) (vs := ints .u8 r) h
    rw [run_convert_bytes_string w src dst e _ _ c hs he hd, run_bytesToString w _ _ c (x :: r) (by
      have := run_loadCells_list (P := P) w ⟨b, o, none⟩ ((x :: r).map (Value.int .u8)) (fun j v hj => by
        rw [show (⟨b, o, none⟩ : Addr).add j = ⟨b, o + j, none⟩ from by unfold Addr.add; split <;> simp_all]
        exact hc j v hj)
      simpa using this)]
    rfl
theorem no_addr {n : Nat} (a : Addr) (h : (none : Option Addr) = some a) : n ≤ a.block := by cases h
theorem new_addr (n : Nat) (a : Addr) (h : some (⟨n, 0, none⟩ : Addr) = some a) : n ≤ a.block := by cases h; exact Nat.le_refl _
end Go.Proofs.Ytcmfcnljdeddfaa.Own
