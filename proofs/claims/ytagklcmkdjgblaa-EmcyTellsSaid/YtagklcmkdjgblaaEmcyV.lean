/- The program's teller and the document's, side by side. -/
import Derived.Test.YtagklcmkdjgblaaEmcyU
namespace Go.Proofs.Ytagklcmkdjgblaa.Emcy
open Go.RowKit Go.Proofs.Ytagklcmkdjgblaa.Own
structure TAct where
  kind : Int
  x : Tr
def TActsAt (w : World) (A : Option Addr) (l : List TAct) : Prop := ∀ i x, l[i]? = some x → ∃ b o, A = some ⟨b, o, none⟩ ∧ b < w.heap.size ∧ x.x.wf ∧
  w.cell? ⟨b, o + i * 8, none⟩ = some (.int .i64 x.kind) ∧ w.cell? ⟨b, o + i * 8 + 1, none⟩ = some (.int .u16 x.x.code) ∧ w.cell? ⟨b, o + i * 8 + 2, none⟩ = some (.int .u8 x.x.reg) ∧ w.cell? ⟨b, o + i * 8 + 3, none⟩ = some (.int .u8 x.x.x0) ∧ w.cell? ⟨b, o + i * 8 + 4, none⟩ = some (.int .u8 x.x.x1) ∧
  w.cell? ⟨b, o + i * 8 + 5, none⟩ = some (.int .u8 x.x.x2) ∧ w.cell? ⟨b, o + i * 8 + 6, none⟩ = some (.int .u8 x.x.x3) ∧ w.cell? ⟨b, o + i * 8 + 7, none⟩ = some (.int .u8 x.x.x4)
/-- The program's teller and the document's, of one state. -/
def TI (w wr : World) (g d : Nat) (m q : Int) (N : Nat) (t : Tl) : Prop := ∃ D, LivX w wr g t D ∧ IsD wr D d t ∧ (∀ k, D k → w.heap.size ≤ k) ∧ Ok m q N t
/-- Between the two: the program's state is on, the document's is not yet. -/
def TB (w wr : World) (g d : Nat) (t t' : Tl) : Prop := ∃ D, LivX w wr g t' D ∧ IsD wr D d t ∧ (∀ k, D k → w.heap.size ≤ k)
section
variable {w wr w1 : World} {g d : Nat} {m q : Int} {N : Nat} {t t' : Tl}
theorem TI.more {N' : Nat} (h : TI w wr g d m q N t) (hn : N ≤ N') : TI w wr g d m q N' t := by
  obtain ⟨D, h1, h2, h3, h4⟩ := h
  exact ⟨D, h1, h2, h3, h4.more hn⟩
theorem TI.old (h : TI w wr g d m q N t) : Keep Zero w wr := h.choose_spec.1.old
theorem TI.ok (h : TI w wr g d m q N t) : Ok m q N t := h.choose_spec.2.2.2
theorem TI.keep (h : TI w wr g d m q N t) (k : Keep Zero wr w1) : TI w w1 g d m q N t := by
  obtain ⟨D, h1, h2, h3, h4⟩ := h
  exact ⟨D, h1.keep k, h2.old k, h3, h4⟩
theorem TB.old (h : TB w wr g d t t') : Keep Zero w wr := h.choose_spec.1.old
theorem TB.keep (h : TB w wr g d t t') (k : Keep Zero wr w1) : TB w w1 g d t t' := by
  obtain ⟨D, h1, h2, h3⟩ := h
  exact ⟨D, h1.keep k, h2.old k, h3⟩
/-- The program's call. -/
theorem TI.first {f : FuncId} {args : Array Value} {v : Value} (h : TI w wr g d m q N t) (hc : ∀ F, LivX w wr g t F → Calls Try.prog f args wr (XPost w wr g F v t')) : Calls Try.prog f args wr fun e w' => e = .returned v ∧ Hid (TB w w' g d t t') := by
  obtain ⟨D, h1, h2, h3, h4⟩ := h
  refine (hc D h1).mono ?_
  rintro e w' ⟨rfl, hp⟩
  exact ⟨rfl, D, hp.out.1, h2.keep hp.out.2 (fun i hi hn => hn hi), h3⟩
/-- The document's call. -/
theorem TB.second2 {f : FuncId} {args : Array Value} {v : Value} (h : TB w wr g d t t') (ho : Ok m q N t') (hc : ∀ D, IsD wr D d t → (∀ k, D k → k < wr.heap.size) → Calls Try.prog f args wr (DPost wr D d v t')) : Calls Try.prog f args wr fun e w' => e = .returned v ∧ Hid (TI w w' g d m q N t' ∧ Keep (Own.One d) wr w') := by
  obtain ⟨D, h1, h2, h3⟩ := h
  have hlt : ∀ k, D k → k < wr.heap.size := by
    obtain ⟨S, _, _, _, h4⟩ := h1
    exact fun k hk => (h4 k hk).1
  refine (hc D h2 hlt).mono ?_
  rintro e w' ⟨rfl, hp⟩
  have hdd : D d := by
    obtain ⟨_, _, _, _, _, _, h⟩ := h2
    exact h.dd
  exact ⟨rfl, ⟨More D wr w', LivX.other h1 (hp.out.2.mono (fun i hi => by have e : i = d := hi; rw [e]; exact hdd)) h3, hp.out.1, fun k hk => hk.elim (h3 k) (fun h => Nat.le_trans h1.old.size h.1), ho⟩, hp.out.2⟩
theorem TB.second {f : FuncId} {args : Array Value} {v : Value} (h : TB w wr g d t t') (ho : Ok m q N t') (hc : ∀ D, IsD wr D d t → (∀ k, D k → k < wr.heap.size) → Calls Try.prog f args wr (DPost wr D d v t')) : Calls Try.prog f args wr fun e w' => e = .returned v ∧ Hid (TI w w' g d m q N t') :=
  (h.second2 ho hc).mono fun _ _ h => ⟨h.1, h.2.out.1⟩
theorem TI.both (h : TI w wr g d m q N t) : ∃ D, Liv w wr g t ∧ IsD wr D d t := by
  obtain ⟨D, h1, h2, h3, h4⟩ := h
  exact ⟨D, h1.liv, h2⟩
end
theorem TB.lt {w wr : World} {g d : Nat} {t t' : Tl} (h : TB w wr g d t t') : d < wr.heap.size := by
  obtain ⟨D, _, h, _⟩ := h
  exact h.lt
theorem TB.blk {w wr : World} {g d : Nat} {t t' : Tl} (h : TB w wr g d t t') : ∃ v, wr.cell? ⟨d, 4, none⟩ = some v ∧ wr.frozen? ⟨d, 4, none⟩ = false := by
  obtain ⟨D, _, ⟨_, _, _, _, _, _, h⟩, _⟩ := h
  exact ⟨_, h.blk.cell 4, h.blk.frozen 4⟩
theorem Raise_t {w wr : World} {g d : Nat} {m q : Int} {N : Nat} {t : Tl} (h : TI w wr g d m q N t) (hN : N + 1 ≤ 17592186044416) (x : Tr) (hx : x.wf) :
    Calls Try.prog 8 #[.pointer (some ⟨g, 0, none⟩), x.v] wr fun e w' => e = .returned (.bool (t.raise x).1) ∧ Hid (TB w w' g d t (t.raise x).2) :=
  h.first (fun _ hF => Raise_x hF h.ok hN x hx)
theorem DRaise_t {w wr : World} {g d : Nat} {m q : Int} {N : Nat} {t : Tl} (ho : Ok m q N t) (hN : N + 1 ≤ 17592186044416) (x : Tr) (hx : x.wf) (h : TB w wr g d t (t.raise x).2) :
    Calls Try.prog 18 #[.pointer (some ⟨d, 0, none⟩), x.v] wr fun e w' => e = .returned (.bool (t.raise x).1) ∧ Hid (TI w w' g d m q (N + 1) (t.raise x).2) :=
  h.second (ho.raise hx) (fun _ hD _ => DRaise_any hD ho.wfs (by have := ho.len; omega) ho.fr (by rw [ho.most]; exact ho.m0) (by rw [ho.most]; exact ho.m1) ho.hist x hx)
theorem Clear_t {w wr : World} {g d : Nat} {m q : Int} {N : Nat} {t : Tl} (h : TI w wr g d m q N t) (hN : N ≤ 10000000000000) (c : Int) (c0 : 0 ≤ c) (c1 : c ≤ 65535) :
    Calls Try.prog 9 #[.pointer (some ⟨g, 0, none⟩), .int .u16 c] wr fun e w' => e = .returned (.bool (t.clear c).1) ∧ Hid (TB w w' g d t (t.clear c).2) :=
  h.first (fun _ hF => Clear_x hF h.ok (by omega) c c0 c1)
theorem DClear_t {w wr : World} {g d : Nat} {m q : Int} {N : Nat} {t : Tl} (ho : Ok m q N t) (hN : N ≤ 10000000000000) (c : Int) (h : TB w wr g d t (t.clear c).2) :
    Calls Try.prog 19 #[.pointer (some ⟨d, 0, none⟩), .int .u16 c] wr fun e w' => e = .returned (.bool (t.clear c).1) ∧ Hid (TI w w' g d m q (N + 1) (t.clear c).2) :=
  h.second ((ho.clear c).more (Nat.le_succ _)) (fun _ hD _ => DClear_any hD ho.wfs (Nat.le_trans ho.len hN) ho.fr c)
theorem Tick_t {w wr : World} {g d : Nat} {m q : Int} {N : Nat} {t : Tl} (h : TI w wr g d m q N t) :
    Calls Try.prog 11 #[.pointer (some ⟨g, 0, none⟩)] wr fun e w' => e = .returned (.bool (decide (t.tick.quiet = 0 ∧ 0 < t.fr.length))) ∧ Hid (TB w w' g d t t.tick) :=
  h.first (fun _ hF => Tick_x hF h.ok)
theorem DTick_t {w wr : World} {g d : Nat} {m q : Int} {N : Nat} {t : Tl} (ho : Ok m q N t) (h : TB w wr g d t t.tick) :
    Calls Try.prog 20 #[.pointer (some ⟨d, 0, none⟩)] wr fun e w' => e = .returned (.bool (decide (t.tick.quiet = 0 ∧ 0 < t.fr.length))) ∧ Hid (TI w w' g d m q (N + 1) t.tick) :=
  h.second (ho.tick.more (Nat.le_succ _)) (fun _ hD _ => DTick_any hD ho.q0 ho.q1 (by have := ho.fr; omega))
theorem Frame_t {w wr : World} {g d : Nat} {m q : Int} {N : Nat} {t : Tl} (h : TI w wr g d m q N t) :
    Calls Try.prog 10 #[.pointer (some ⟨g, 0, none⟩)] wr fun e w' => e = .returned (.tuple #[t.frame.1.v, .bool t.frame.2.1]) ∧ Hid (TB w w' g d t t.frame.2.2) :=
  h.first (fun _ hF => Frame_x hF h.ok)
theorem DFrame_t {w wr : World} {g d : Nat} {m q : Int} {N : Nat} {t : Tl} (ho : Ok m q N t) (h : TB w wr g d t t.frame.2.2) :
    Calls Try.prog 21 #[.pointer (some ⟨d, 0, none⟩)] wr fun e w' => e = .returned (.tuple #[t.frame.1.v, .bool t.frame.2.1]) ∧ Hid (TI w w' g d m q (N + 1) t.frame.2.2 ∧ Keep (Own.One d) wr w') :=
  h.second2 (ho.frame.more (Nat.le_succ _)) (fun _ hD hlt => by
    unfold Tl.frame
    have q0 := ho.q0
    have hl := ho.fr
    split
    · rename_i hq
      exact DFrame_none hD (.inl hq)
    · rename_i hq
      split
      · rename_i e
        exact DFrame_none hD (.inr ⟨q0, e⟩)
      · rename_i f r e
        exact DFrame_some hD hlt (by omega) f r e (by omega))
theorem Forget_t {w wr : World} {g d : Nat} {m q : Int} {N : Nat} {t : Tl} (h : TI w wr g d m q N t) :
    Calls Try.prog 22 #[.pointer (some ⟨g, 0, none⟩)] wr fun e w' => e = .returned (.tuple #[]) ∧ Hid (TB w w' g d t { t with hist := [] }) :=
  h.first (fun _ hF => Forget_x hF)
/-- The document's history is put away. -/
theorem TB.forget {w wr : World} {g d : Nat} {m q : Int} {N : Nat} {t : Tl} (h : TB w wr g d t { t with hist := [] }) (ho : Ok m q N t) : TI w (wr.setCell ⟨d, 4, none⟩ (.slice none 0 0)) g d m q (N + 1) { t with hist := [] } := by
  obtain ⟨D, h1, ⟨An, cn, Ah, ch, Af, cf, h2⟩, h3⟩ := h
  have hp := h2.put4 (D' := D) (w1 := wr) (A := none) (c := 0) (l := []) (Keep.refl Zero wr) (Row.nil _ _) (Nat.le_refl _) (Nat.zero_le _) (fun _ => rfl) (fun i h => h) (fun h => absurd rfl h)
  have hk : Keep D wr (wr.setCell ⟨d, 4, none⟩ (.slice none 0 0)) := (Keep.refl _ _).set (.inl h2.dd) _
  refine ⟨D, (LivX.other h1 hk h3).less (fun i hi => .inl hi), ⟨_, _, _, _, _, _, hp⟩, h3, { (ho.more (Nat.le_succ _)) with hist := by have := ho.m0; have := ho.most; simp; omega }⟩
end Go.Proofs.Ytagklcmkdjgblaa.Emcy
