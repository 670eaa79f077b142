/- Two chips that are alike, side by side. -/
import Derived.Test.YtgegpeicpbhnkaaNvmV
namespace Go.Proofs.Ytgegpeicpbhnkaa.Nvm
open Go.RowKit Go.Proofs.Ytgegpeicpbhnkaa.Own Go.Proofs.Ytgegpeicpbhnkaa.Crc
/-- The same chip, its pages at another place. -/
def Ch.on (c : Ch) (q : Nat) : Ch := { c with pg := q }
theorem write_on (c : Ch) (q : Nat) (k : Int) (b : Nat → Int) : (c.on q).write k b = ((c.write k b).1, (c.write k b).2.on q) := by
  unfold Ch.write Ch.on
  simp only
  split
  · split <;> rfl
  · rfl
theorem putsGo_on (f : Nat) (xs : List Int) (q : Nat) : ∀ (k i : Nat) (c : Ch), putsGo f xs k i (c.on q) = ((putsGo f xs k i c).1, (putsGo f xs k i c).2.on q)
  | 0, i, c => rfl
  | k + 1, i, c => by
    rw [putsGo_succ, putsGo_succ, write_on]
    simp only
    split
    · exact putsGo_on f xs q k (i + 1) _
    · rfl
theorem putsF_on (c : Ch) (q f : Nat) (cnt : Int) (xs : List Int) : putsF (c.on q) f cnt xs = ((putsF c f cnt xs).1, (putsF c f cnt xs).2.on q) := by
  unfold putsF
  rw [write_on]
  simp only
  rw [putsGo_on]
  simp only
  rw [write_on]
  split
  · split <;> rfl
  · rfl
theorem saveF_on (c : Ch) (q : Nat) (xs : List Int) : saveF (c.on q) xs = ((saveF c xs).1, (saveF c xs).2.on q) := by
  unfold saveF
  have e1 : (c.on q).n = c.n := rfl
  have e2 : (c.on q).P = c.P := rfl
  have e3 : (c.on q).dead = c.dead := rfl
  rw [e1, e2, e3, putsF_on]
  split
  · rfl
  · split <;> rfl
theorem erase_on (c : Ch) (q : Nat) : (c.on q).erase = (c.erase.1, c.erase.2.on q) := by
  unfold Ch.erase
  have e1 : (c.on q).n = c.n := rfl
  rw [e1, write_on]
  simp only
  rw [write_on]
  split <;> rfl
theorem erase_pg (c : Ch) : c.erase.2.pg = c.pg := by
  unfold Ch.erase
  split
  · exact ((write_pn _ _ _).1).trans (write_pn _ _ _).1
  · exact (write_pn _ _ _).1
theorem saveF_pg (c : Ch) (xs : List Int) : (saveF c xs).2.pg = c.pg := by
  unfold saveF
  split
  · rfl
  · split
    · rfl
    · exact (putsF_pg c _ _ _).1
/-- The program's chip and the document's, alike. -/
structure SD (w wr : World) (g p d q : Nat) (c : Ch) : Prop where
  ch : IsCh wr g c
  dc : IsDc wr d (c.on q)
  pg : c.pg = p
  kp : Keep Zero w wr
  g0 : w.heap.size ≤ g
  p0 : w.heap.size ≤ p
  d0 : w.heap.size ≤ d
  q0 : w.heap.size ≤ q
  gd : g ≠ d
  gq : g ≠ q
  pd : p ≠ d
  pq : p ≠ q
variable {w wr w2 : World} {g p d q : Nat} {c c2 : Ch}
theorem SD.zero (h : SD w wr g p d q c) (k : Keep Zero wr w2) : SD w w2 g p d q c :=
  { h with ch := h.ch.keep k id id, dc := h.dc.keep k id id, kp := h.kp.trans k (fun _ hi => hi.elim) }
/-- The program's has moved, the document's has not yet. -/
structure SH (w wr : World) (g p d q : Nat) (c c2 : Ch) : Prop where
  ch : IsCh wr g c2
  dc : IsDc wr d (c.on q)
  pg : c2.pg = p
  kp : Keep Zero w wr
  g0 : w.heap.size ≤ g
  p0 : w.heap.size ≤ p
  d0 : w.heap.size ≤ d
  q0 : w.heap.size ≤ q
  gd : g ≠ d
  gq : g ≠ q
  pd : p ≠ d
  pq : p ≠ q
theorem SD.prog (h : SD w wr g p d q c) (k : Keep (Chp g p) wr w2) (hc : IsCh w2 g c2) (hp : c2.pg = p) : SH w w2 g p d q c c2 :=
  { h with
    ch := hc
    pg := hp
    dc := h.dc.keep k (fun e => by rcases e with e | e; exact h.gd e.symm; exact h.pd e.symm) (fun e => by rcases e with e | e; exact h.gq e.symm; exact h.pq e.symm)
    kp := h.kp.trans k (fun i hi => by rcases hi with rfl | rfl; exact .inr h.g0; exact .inr h.p0) }
theorem SH.doc (h : SH w wr g p d q c c2) (k : Keep (Chp d q) wr w2) (hc : IsDc w2 d (c2.on q)) : SD w w2 g p d q c2 :=
  { h with
    dc := hc
    ch := h.ch.keep k (fun e => by rcases e with e | e; exact h.gd e; exact h.gq e) (fun e => by rw [h.pg] at e; rcases e with e | e; exact h.pd e; exact h.pq e)
    kp := h.kp.trans k (fun i hi => by rcases hi with rfl | rfl; exact .inr h.d0; exact .inr h.q0) }
theorem SH.zero (h : SH w wr g p d q c c2) (k : Keep Zero wr w2) : SH w w2 g p d q c c2 :=
  { h with ch := h.ch.keep k id id, dc := h.dc.keep k id id, kp := h.kp.trans k (fun _ hi => hi.elim) }
end Go.Proofs.Ytgegpeicpbhnkaa.Nvm
