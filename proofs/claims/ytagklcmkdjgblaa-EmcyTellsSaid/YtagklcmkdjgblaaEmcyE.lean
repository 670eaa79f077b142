/- The teller on memory; its place of an error, its register. -/
import Derived.Test.YtagklcmkdjgblaaEmcyD
import Derived.Laws.BitsAllLaws
import Derived.Laws.BitsLemmas
namespace Go.Proofs.Ytagklcmkdjgblaa.Emcy
open Go.RowKit Go.Proofs.Ytagklcmkdjgblaa.Own
structure Fr where
  b0 : Int
  b1 : Int
  b2 : Int
  b3 : Int
  b4 : Int
  b5 : Int
  b6 : Int
  b7 : Int
deriving DecidableEq
def Fr.cells (f : Fr) : List Value := [.int .u8 f.b0, .int .u8 f.b1, .int .u8 f.b2, .int .u8 f.b3, .int .u8 f.b4, .int .u8 f.b5, .int .u8 f.b6, .int .u8 f.b7]
def Fr.v (f : Fr) : Value := .agg #[.int .u8 f.b0, .int .u8 f.b1, .int .u8 f.b2, .int .u8 f.b3, .int .u8 f.b4, .int .u8 f.b5, .int .u8 f.b6, .int .u8 f.b7]
def Fr.zero : Fr := ⟨0, 0, 0, 0, 0, 0, 0, 0⟩
theorem Fr.cells_length (f : Fr) : f.cells.length = 8 := rfl
def flatF (l : List Fr) : List Value := l.flatMap Fr.cells
theorem flatF_cons (t : Fr) (l : List Fr) : flatF (t :: l) = t.cells ++ flatF l := rfl
theorem flatF_append (a b : List Fr) : flatF (a ++ b) = flatF a ++ flatF b := List.flatMap_append
theorem flatF_length (l : List Fr) : (flatF l).length = l.length * 8 := by
  induction l with
  | nil => rfl
  | cons t l ih => rw [flatF_cons, List.length_append, ih, Fr.cells_length, List.length_cons]; omega
theorem fcells_one (t : Fr) : ∀ u ∈ t.cells, u.oneCell' = true := by
  intro u hu
  simp only [Fr.cells, List.mem_cons, List.not_mem_nil, or_false] at hu
  rcases hu with rfl | rfl | rfl | rfl | rfl | rfl | rfl | rfl <;> rfl
theorem flatF_one_cell (l : List Fr) : ∀ u ∈ flatF l, u.oneCell' = true := by
  intro u hu
  obtain ⟨t, _, h⟩ := List.mem_flatMap.1 hu
  exact fcells_one t u h

/-- The teller. -/
structure Tl where
  most : Int
  inhibit : Int
  quiet : Int
  now : List Tr
  hist : List Tr
  fr : List Fr
structure IsTv (w : World) (S : Nat → Prop) (g : Nat) (t : Tl) (An : Option Addr) (cn : Nat) (Ah : Option Addr) (ch : Nat) (Af : Option Addr) (cf : Nat) : Prop where
  blk : Blk w g #[.int .i64 t.most, .int .u64 t.inhibit, .int .u64 t.quiet, .slice An t.now.length cn, .slice Ah t.hist.length ch, .slice Af t.fr.length cf] 55
  now : w.ownsRow 0 33 7 (.slice An t.now.length cn) t.now.length (flat t.now)
  hist : w.ownsRow 0 33 7 (.slice Ah t.hist.length ch) t.hist.length (flat t.hist)
  fr : w.ownsRow 0 35 8 (.slice Af t.fr.length cf) t.fr.length (flatF t.fr)
  sg : S g
  sn : ∀ a, An = some a → S a.block ∧ a.block ≠ g
  sh : ∀ a, Ah = some a → S a.block ∧ a.block ≠ g ∧ ∀ b, An = some b → a.block ≠ b.block
  sf : ∀ a, Af = some a → S a.block ∧ a.block ≠ g ∧ (∀ b, An = some b → a.block ≠ b.block) ∧ ∀ b, Ah = some b → a.block ≠ b.block
def IsT (w : World) (S : Nat → Prop) (g : Nat) (t : Tl) : Prop := ∃ An cn Ah ch Af cf, IsTv w S g t An cn Ah ch Af cf
theorem own_trs {w : World} {A : Option Addr} {n c : Nat} {l : List Tr} (h : w.ownsRow 0 33 7 (.slice A n c) n (flat l)) : Trs w A l := by
  obtain ⟨A', c', hv, hr, _⟩ := Row.own h
  simp only [Value.slice.injEq, true_and] at hv
  obtain ⟨rfl, _⟩ := hv
  exact hr
theorem own_rowF {w : World} {A : Option Addr} {n c : Nat} {l : List Fr} (h : w.ownsRow 0 35 8 (.slice A n c) n (flatF l)) : Row w A (flatF l) := by
  obtain ⟨A', c', hv, hr, _⟩ := Row.own h
  simp only [Value.slice.injEq, true_and] at hv
  obtain ⟨rfl, _⟩ := hv
  exact hr
theorem own_le {w : World} {e : TypeId} {s : Nat} {A : Option Addr} {n c : Nat} {xs : List Value} (h : w.ownsRow 0 e s (.slice A n c) n xs) : n ≤ c ∧ c ≤ maxLen ∧ (A = none → n = 0 ∧ c = 0) := by
  obtain ⟨_, ⟨hv, h0⟩ | ⟨g, cap, cur, hv, _, _, h1, h2, _⟩⟩ := h
  · simp only [Value.slice.injEq] at hv
    obtain ⟨rfl, rfl, rfl⟩ := hv
    exact ⟨Nat.le_refl _, Nat.zero_le _, fun _ => ⟨rfl, rfl⟩⟩
  · simp only [Value.slice.injEq, true_and] at hv
    obtain ⟨rfl, rfl⟩ := hv
    exact ⟨h1, h2, fun h => by cases h⟩
theorem own_addr {w : World} {e : TypeId} {s : Nat} {A : Option Addr} {n c : Nat} {xs : List Value} (h : w.ownsRow 0 e s (.slice A n c) n xs) (a : Addr) (ha : A = some a) : a = ⟨a.block, 0, none⟩ ∧ a.block < w.heap.size := by
  obtain ⟨_, ⟨hv, h0⟩ | ⟨g, cap, cur, hv, _, hh, h1, h2, _⟩⟩ := h
  · simp only [Value.slice.injEq] at hv
    obtain ⟨rfl, rfl, rfl⟩ := hv
    cases ha
  · simp only [Value.slice.injEq, true_and] at hv
    obtain ⟨rfl, rfl⟩ := hv
    cases ha
    exact ⟨rfl, (Array.getElem?_eq_some_iff.1 hh).1⟩
theorem own_keep2 {w w1 : World} {base : Nat} {e : TypeId} {size n : Nat} {v : Value} {vs : List Value} {S : Nat → Prop} (h : w.ownsRow base e size v n vs) (k : Keep S w w1) (hs : ∀ i, v.ownBlock = some i → ¬ S i) : w1.ownsRow base e size v n vs := by
  obtain ⟨hl, h | ⟨g, cap, cur, hv, hb, hh, r⟩⟩ := h
  · exact ⟨hl, .inl h⟩
  · exact ⟨hl, .inr ⟨g, cap, cur, hv, hb, (k.block g (Array.getElem?_eq_some_iff.1 hh).1 (hs g (by subst hv; rfl))).trans hh, r⟩⟩
section
variable {w w1 : World} {S S' : Nat → Prop} {g : Nat} {t : Tl} {An Ah Af : Option Addr} {cn ch cf : Nat}
theorem own_in {A : Option Addr} {n c k : Nat} (h : (Value.slice A n c).ownBlock = some k) : ∃ a, A = some a ∧ a.block = k := by
  rcases A with _ | a
  · simp [Value.ownBlock] at h
  · exact ⟨a, rfl, by simpa [Value.ownBlock] using h⟩
theorem IsTv.keep (h : IsTv w S g t An cn Ah ch Af cf) (k : Keep S' w w1) (hs : ∀ i, S i → ¬ S' i) : IsTv w1 S g t An cn Ah ch Af cf :=
  ⟨h.blk.keep k (hs g h.sg), own_keep2 h.now k (fun i hi => by obtain ⟨a, ha, rfl⟩ := own_in hi; exact hs _ (h.sn a ha).1), own_keep2 h.hist k (fun i hi => by obtain ⟨a, ha, rfl⟩ := own_in hi; exact hs _ (h.sh a ha).1),
    own_keep2 h.fr k (fun i hi => by obtain ⟨a, ha, rfl⟩ := own_in hi; exact hs _ (h.sf a ha).1), h.sg, h.sn, h.sh, h.sf⟩
theorem IsTv.old (h : IsTv w S g t An cn Ah ch Af cf) (k : Keep Zero w w1) : IsTv w1 S g t An cn Ah ch Af cf := h.keep k (fun _ _ => id)
theorem IsT.old (h : IsT w S g t) (k : Keep Zero w w1) : IsT w1 S g t := by
  obtain ⟨_, _, _, _, _, _, h⟩ := h
  exact ⟨_, _, _, _, _, _, h.old k⟩
theorem IsTv.more (h : IsTv w S g t An cn Ah ch Af cf) (hs : ∀ i, S i → S' i) : IsTv w S' g t An cn Ah ch Af cf :=
  ⟨h.blk, h.now, h.hist, h.fr, hs _ h.sg, fun a ha => ⟨hs _ (h.sn a ha).1, (h.sn a ha).2⟩, fun a ha => ⟨hs _ (h.sh a ha).1, (h.sh a ha).2⟩, fun a ha => ⟨hs _ (h.sf a ha).1, (h.sf a ha).2⟩⟩
end

theorem at_any {w : World} {S : Nat → Prop} {g : Nat} {t : Tl} (h : IsT w S g t) (c : Int) (hl : t.now.length ≤ 1000000000000000) :
    Calls Try.prog 24 #[.pointer (some ⟨g, 0, none⟩), .int .u16 c] w fun e w' => e = .returned (.int .i64 (findF c t.now 0)) ∧ Keep Zero w w' := by
  obtain ⟨An, cn, Ah, ch, Af, cf, h⟩ := h
  have c3 := h.blk.cell 3
  have glt := h.blk.lt
  have HR := Lib.hid (own_trs h.now)
  obtain ⟨n, hn⟩ : ∃ n, n = t.now.length := ⟨_, rfl⟩
  have HN := Lib.hid hn
  have c3' : w.cell? ⟨g, 3, none⟩ = some (.slice An n cn) := by rw [hn]; exact c3
  clear h c3 hn
  go_enter Try.func24, Try.ntmps24
  go_wp2_with fail
  have hcc : (w.alloc (.cells #[.int .u16 c] 30)).cell? ⟨w.heap.size, 0, none⟩ = some (.int .u16 c) := (Blk.new w #[.int .u16 c] 30).cell 0
  rw [HN.out]
  refine (IndexFunc_any An cn t.now c w.heap.size _ (Row.keep HR.out ((Keep.refl Zero w).alloc _) (fun _ _ _ => id)) hl hcc).mono ?_
  rintro e w' ⟨rfl, hk⟩
  have HK := Lib.hid hk
  clear hk hcc
  go_wp2_with fail
  go_ret
  exact ⟨rfl, ((Keep.refl Zero w).alloc _).trans HK.out (fun i hi => hi.elim)⟩

def orB (a b : Int) : Int := bits .or .u8 a b
theorem orB_nat (a b : Nat) (ha : a < 256) (hb : b < 256) : orB a b = ((a ||| b : Nat) : Int) := u8_or_nat a b ha hb
def regF (l : List Tr) : Int := l.foldl (fun a t => orB a (orB t.reg 1)) 0
def regD (l : List Tr) : Int := l.foldl (fun a t => orB (orB a t.reg) 1) 0
def regN (l : List Tr) : Nat := l.foldl (fun a t => a ||| (t.reg.toNat ||| 1)) 0
end Go.Proofs.Ytagklcmkdjgblaa.Emcy
