/- The receiver's calls. -/
import Derived.Test.YtdmomhbimhggiaaBlockD
import Derived.Deep.RegionLaw
import Derived.Laws.ResultCell
namespace Go.Proofs.Ytdmomhbimhggiaa.Block
open Go.RowKit Go.Proofs.Ytdmomhbimhggiaa.Own Go.Proofs.Ytdmomhbimhggiaa.Crc
structure Rcv where
  size : Nat
  doing : Nat
  came : Nat
  last : Nat → Int
  V : Value
  xs : List Int
  code : Int
def Rcv.cells (r : Rcv) : Array Value := #[.int .i64 r.size, .int .i64 r.doing, .int .i64 r.came, .int .u8 (r.last 0), .int .u8 (r.last 1), .int .u8 (r.last 2), .int .u8 (r.last 3), .int .u8 (r.last 4), .int .u8 (r.last 5), .int .u8 (r.last 6), .int .u8 (r.last 7), r.V, .int .u32 r.code]
structure IsRcv (w : World) (g base : Nat) (r : Rcv) : Prop where
  blk : Blk w g r.cells 66
  own : w.ownsRow base 5 1 r.V r.xs.length (ints .u8 r.xs)
  byte : ∀ x ∈ r.xs, 0 ≤ x ∧ x ≤ 255
  s0 : 1 ≤ r.size
  s1 : r.size ≤ 127
  c1 : r.came ≤ 127
  big : r.xs.length ≤ 70000
  bs : base ≤ w.heap.size
/-- A receiver's blocks. -/
def RS (r : Rcv) (g : Nat) : Nat → Prop := fun k => k = g ∨ r.V.ownBlock = some k
theorem own_ty {w : World} {base : Nat} {e : TypeId} {size n : Nat} {v : Value} {vs : List Value} (h : w.ownsRow base e size v n vs) {k : Nat} (hk : v.ownBlock = some k) : ∃ cs, Blk w k cs e := by
  obtain ⟨_, ⟨rfl, _⟩ | ⟨g, cap, cur, rfl, hb, hh, _⟩⟩ := h
  · simp [Value.ownBlock] at hk
  · simp only [Value.ownBlock, Option.some.injEq] at hk
    subst hk
    exact ⟨cur, hh⟩
theorem Blk.ne_ty {w : World} {g k : Nat} {cs cs' : Array Value} {T T' : TypeId} (h : Blk w g cs T) (h' : Blk w k cs' T') (hn : T ≠ T') : g ≠ k := by
  rintro rfl
  unfold Blk at h h'
  rw [h] at h'
  injection h' with e
  injection e with _ e2 _
  exact hn e2
theorem own_keep2 {w w1 : World} {base : Nat} {e : TypeId} {size n : Nat} {v : Value} {vs : List Value} {S : Nat → Prop} (h : w.ownsRow base e size v n vs) (k : Keep S w w1) (hs : ∀ i, v.ownBlock = some i → ¬ S i) : w1.ownsRow base e size v n vs := by
  obtain ⟨hl, h | ⟨g, cap, cur, hv, hb, hh, r⟩⟩ := h
  · exact ⟨hl, .inl h⟩
  · exact ⟨hl, .inr ⟨g, cap, cur, hv, hb, (k.block g (Array.getElem?_eq_some_iff.1 hh).1 (hs g (by rw [hv]; rfl))).trans hh, r⟩⟩
theorem IsRcv.keep {S : Nat → Prop} {w w1 : World} {g base : Nat} {r : Rcv} (h : IsRcv w g base r) (k : Keep S w w1) (hs : ∀ i, RS r g i → ¬ S i) : IsRcv w1 g base r :=
  ⟨h.blk.keep k (hs g (.inl rfl)), own_keep2 h.own k (fun i hi => hs i (.inr hi)), h.byte, h.s0, h.s1, h.c1, h.big, Nat.le_trans h.bs k.size⟩
theorem IsRcv.alloc {w : World} {g base : Nat} {r : Rcv} (h : IsRcv w g base r) (o : Go.Obj) : IsRcv (w.alloc o) g base r := h.keep ((Keep.refl Own.Zero w).alloc o) (fun _ _ => id)
/-- Any other cells, where b's row stays. -/
theorem IsRcv.turn {w w1 : World} {g base : Nat} {r : Rcv} (h : IsRcv w g base r) (k : Keep (Own.One g) w w1) (r2 : Rcv) (hb : Blk w1 g r2.cells 66) (hV : r2.V = r.V) (hx : r2.xs = r.xs) (hs : r2.size = r.size) (hc : r2.came ≤ 127) : IsRcv w1 g base r2 :=
  ⟨hb, by
    rw [hV, hx]
    exact own_keep2 h.own k (fun i hi e => by
      obtain ⟨cs, h2⟩ := own_ty h.own hi
      exact Blk.ne_ty h.blk h2 (by decide) e.symm), by rw [hx]; exact h.byte, by rw [hs]; exact h.s0, by rw [hs]; exact h.s1, hc, by rw [hx]; exact h.big, Nat.le_trans h.bs k.size⟩
/-- An answer. -/
def ansF (c s : Nat) (k : Nat) : Int := if k = 0 then 162 else if k = 1 then c else if k = 2 then s else 0
theorem NewReceiver_ok (w : World) (k : Nat) (k0 : 1 ≤ k) (k1 : k ≤ 127) :
    Calls Try.prog 15 #[.int .i64 k] w fun e w' => ∃ g, e = .returned (.tuple #[.pointer (some ⟨g, 0, none⟩), .int .i64 0]) ∧ Hid (IsRcv w' g w.heap.size ⟨k, 0, 0, fun _ => 0, .slice none 0 0, [], 0⟩ ∧ Keep Own.Zero w w' ∧ w.heap.size ≤ g) := by
  have b1 : decide ((k : Int) < 1) = false := by simp; omega
  have b2 : decide ((127 : Int) < (k : Int)) = false := by simp; omega
  go_enter Try.func15, Try.ntmps15
  go_wp2
  go_ret2
  exact ⟨_, rfl, Lib.hid ⟨⟨Blk.new w _ _, own_nil _ _ _ _, (fun _ h => by cases h), k0, k1, by simp, by simp, by simp⟩, (Keep.refl _ _).alloc _, Nat.le_refl _⟩⟩
set_option maxRecDepth 100000 in
set_option maxHeartbeats 4000000 in
theorem answers_ok {w : World} {g base : Nat} {r : Rcv} (h : IsRcv w g base r) :
    Calls Try.prog 33 #[.pointer (some ⟨g, 0, none⟩)] w fun e w' => e = .returned (.tuple #[aggF (ansF r.came r.size), .bool true]) ∧ Hid (IsRcv w' g base { r with came := 0, last := ansF r.came r.size } ∧ Keep (Own.One g) w w') := by
  have H := Lib.hid h
  obtain ⟨c, hc⟩ : ∃ c, c = r.came := ⟨_, rfl⟩
  obtain ⟨s, hs⟩ : ∃ s, s = r.size := ⟨_, rfl⟩
  have HC := Lib.hid hc
  have HSz := Lib.hid hs
  have hc1 : c ≤ 127 := by rw [hc]; exact h.c1
  have hs1 : s ≤ 127 := by rw [hs]; exact h.s1
  have hw1 : IntKind.u8.wrap (c : Int) = (c : Int) := by rw [IntKind.wrap_u8']; omega
  have hw2 : IntKind.u8.wrap (s : Int) = (s : Int) := by rw [IntKind.wrap_u8']; omega
  have hgl := h.blk.lt
  have c0 : ∀ o, (w.alloc o).cell? ⟨g, 0, none⟩ = some (.int .i64 s) := fun o => by rw [hs]; exact (h.blk.alloc o).cell 0
  have c2 : ∀ o, (w.alloc o).cell? ⟨g, 2, none⟩ = some (.int .i64 c) := fun o => by rw [hc]; exact (h.blk.alloc o).cell 2
  have l3 := h.blk.cell 3
  have l4 := h.blk.cell 4
  have l5 := h.blk.cell 5
  have l6 := h.blk.cell 6
  have l7 := h.blk.cell 7
  have l8 := h.blk.cell 8
  have l9 := h.blk.cell 9
  have l10 := h.blk.cell 10
  simp only [Rcv.cells] at l3 l4 l5 l6 l7 l8 l9 l10
  have f3 := h.blk.frozen 3
  have f4 := h.blk.frozen 4
  have f5 := h.blk.frozen 5
  have f6 := h.blk.frozen 6
  have f7 := h.blk.frozen 7
  have f8 := h.blk.frozen 8
  have f9 := h.blk.frozen 9
  have f10 := h.blk.frozen 10
  have f2 : ∀ o, (w.alloc o).frozen? ⟨g, 2, none⟩ = false := fun o => (h.blk.alloc o).frozen 2
  clear h hc hs
  go_enter Try.func33, Try.ntmps33
  go_wp2_with fail
  go_region
  obtain ⟨W1, hW1⟩ : ∃ x, x = (((((((w.setCell ⟨g, 3, none⟩ (.int .u8 162)).setCell ⟨g, 4, none⟩ (.int .u8 c)).setCell ⟨g, 5, none⟩ (.int .u8 s)).setCell ⟨g, 6, none⟩ (.int .u8 0)).setCell ⟨g, 7, none⟩ (.int .u8 0)).setCell ⟨g, 8, none⟩ (.int .u8 0)).setCell ⟨g, 9, none⟩ (.int .u8 0)).setCell ⟨g, 10, none⟩ (.int .u8 0) := ⟨_, rfl⟩
  have HB1 : Hid (Blk W1 g { r with last := ansF c s }.cells 66) := Lib.hid (by
    rw [hW1]
    refine Blk.cast ((((((((H.out.blk.set 3 _).set 4 _).set 5 _).set 6 _).set 7 _).set 8 _).set 9 _).set 10 _) ?_
    simp [Rcv.cells, ansF])
  have HK1 : Hid (Keep (Own.One g) w W1) := Lib.hid (by
    rw [hW1]
    exact ((((((((Keep.refl (Own.One g) w).set1 3 _).set1 4 _).set1 5 _).set1 6 _).set1 7 _).set1 8 _).set1 9 _).set1 10 _)
  have hsz : W1.heap.size = w.heap.size := by
    rw [hW1]
    simp
  rw [← hW1, ← hsz]
  clear hW1 c0 c2 f2 f3 f4 f5 f6 f7 f8 f9 f10 l3 l4 l5 l6 l7 l8 l9 l10
  have hgl1 : g < W1.heap.size := by omega
  have f2 := HB1.out.frozen 2
  have c2 : W1.cell? ⟨g, 2, none⟩ = some (.int .i64 c) := by rw [HC.out]; exact HB1.out.cell 2
  have l3 : W1.cell? ⟨g, 3, none⟩ = some (.int .u8 162) := HB1.out.cell 3
  have l4 : W1.cell? ⟨g, 4, none⟩ = some (.int .u8 c) := HB1.out.cell 4
  have l5 : W1.cell? ⟨g, 5, none⟩ = some (.int .u8 s) := HB1.out.cell 5
  have l6 : W1.cell? ⟨g, 6, none⟩ = some (.int .u8 0) := HB1.out.cell 6
  have l7 : W1.cell? ⟨g, 7, none⟩ = some (.int .u8 0) := HB1.out.cell 7
  have l8 : W1.cell? ⟨g, 8, none⟩ = some (.int .u8 0) := HB1.out.cell 8
  have l9 : W1.cell? ⟨g, 9, none⟩ = some (.int .u8 0) := HB1.out.cell 9
  have l10 : W1.cell? ⟨g, 10, none⟩ = some (.int .u8 0) := HB1.out.cell 10
  clear hsz
  go_wp2_with fail
  refine bodyPost_ret (v := .tuple #[aggF (ansF c s), .bool true]) (by simp [results, Try.results33, go_sem]; rfl) rfl ?_
  have hk2 : Keep (Own.One g) w (W1.setCell ⟨g, 2, none⟩ (.int .i64 0)) := HK1.out.set1 2 _
  have hr : IsRcv (W1.setCell ⟨g, 2, none⟩ (.int .i64 0)) g base { r with came := 0, last := ansF r.came r.size } := H.out.turn hk2 _ ((HB1.out.set 2 _).cast (by simp [Rcv.cells, HC.out, HSz.out])) rfl rfl rfl (by simp)
  refine ⟨by rw [HC.out, HSz.out], Lib.hid ⟨(hr.alloc _).keep ((Keep.refl Own.Zero _).drew) (fun _ _ => id), (hk2.alloc _).drew⟩⟩
theorem aggF_ans (c s : Nat) : aggF (ansF c s) = .agg #[.int .u8 162, .int .u8 c, .int .u8 s, .int .u8 0, .int .u8 0, .int .u8 0, .int .u8 0, .int .u8 0] := rfl
theorem andNot128 (q : Nat) (hq : q ≤ 127) : bits .andNot .u8 (q : Int) 128 = (q : Int) ∧ bits .andNot .u8 ((q : Int) + 128) 128 = (q : Int) ∧ bits .and .u8 (q : Int) 128 = 0 ∧ bits .and .u8 ((q : Int) + 128) 128 = 128 := by
  have h : ∀ i : Fin 128, bits .andNot .u8 (i.val : Int) 128 = (i.val : Int) ∧ bits .andNot .u8 ((i.val : Int) + 128) 128 = (i.val : Int) ∧ bits .and .u8 (i.val : Int) 128 = 0 ∧ bits .and .u8 ((i.val : Int) + 128) 128 = 128 := by decide
  exact h ⟨q, by omega⟩
section
variable {P : Program} {w : World} {ops : Array Oper} {rest : List Oper} {o : Oper} {a : Act} {K : Act → World → Prop} {Q : Exit → Act → World → Prop}
theorem step_app_own {E : Prop} (hgd : o.guard = none) (s x : Operand) (t : TypeId)
    (ho : o.op = .call { callee := .builtin .append, args := #[s, x], argTypes := #[t, t] })
    (base : Nat) (e : TypeId) (z : Value) (size bytes : Nat) (ht : P.underlying t = some (.slice e)) (hi : (P.info? e).map (fun i => (i.zero, i.size, i.bytes)) = some (some z, size, bytes))
    (hzs : z.cells.size = size) (hsz : 0 < size)
    (v : Value) (n : Nat) (xs : List Value) (hs : a.eval s = v) (hown : w.ownsRow base e size v n xs)
    (A : Option Addr) (m c : Nat) (news : List Value) (hx : a.eval x = .slice A m c) (hl : news.length = m * size) (hnil : A = none → c = 0) (hnews : Row w A news) (h1 : ∀ u ∈ news, u.oneCell' = true)
    (h63 : n + m ≤ maxLen) (hbytes : (n + m) * bytes ≤ 140737488355328) (hbase : base ≤ w.heap.size)
    (h : ∀ v' w', w'.ownsRow base e size v' (n + m) (xs ++ news) → w.grownBy w' v.ownBlock → K (a.put o.dst v') w') :
    if Region.wanted o (yielded ops a.tmps) = true then Oper.wp P o a w K Q else E := by
  rw [if_pos (by simp [Region.wanted, hgd])]
  exact wp_app s x t ho base e z size bytes ht hi hzs hsz v n xs hs hown A m c news hx hl hnil hnews h1 h63 hbytes hbase h
end
theorem row_seven {w : World} {q : Nat} {x0 x1 x2 x3 x4 x5 x6 x7 : Int} (h : Blk w q #[.int .u8 x0, .int .u8 x1, .int .u8 x2, .int .u8 x3, .int .u8 x4, .int .u8 x5, .int .u8 x6, .int .u8 x7] 30) : Row w (some ⟨q, 1, none⟩) (ints .u8 [x1, x2, x3, x4, x5, x6, x7]) := fun i v hv =>
  ⟨q, 1, rfl, h.lt, by
    rw [h.cell, Nat.add_comm]
    have e : (#[Value.int .u8 x0, .int .u8 x1, .int .u8 x2, .int .u8 x3, .int .u8 x4, .int .u8 x5, .int .u8 x6, .int .u8 x7] : Array Value)[i + 1]? = (ints .u8 [x1, x2, x3, x4, x5, x6, x7])[i]? := by simp [ints]
    rw [e]
    exact hv⟩
theorem own_far {w : World} {base : Nat} {e : TypeId} {size n : Nat} {v : Value} {vs : List Value} (h : w.ownsRow base e size v n vs) {g : Nat} {cs : Array Value} {T : TypeId} (hb : Blk w g cs T) (hn : T ≠ e) : v.ownBlock ≠ some g := fun e1 => by
  obtain ⟨cs2, h2⟩ := own_ty h e1
  exact Blk.ne_ty hb h2 hn rfl
/-- The seven bytes of a frame. -/
def seven (f : Nat → Int) : List Int := [f 1, f 2, f 3, f 4, f 5, f 6, f 7]
theorem keep8 {S : Nat → Prop} {w w1 : World} {b : Nat} (h : Keep S w w1) (hb : S b ∨ w.heap.size ≤ b) (v0 v1 v2 v3 v4 v5 v6 v7 : Value) :
    Keep S w ((((((((w1.setCell ⟨b, 0, none⟩ v0).setCell ⟨b, 1, none⟩ v1).setCell ⟨b, 2, none⟩ v2).setCell ⟨b, 3, none⟩ v3).setCell ⟨b, 4, none⟩ v4).setCell ⟨b, 5, none⟩ v5).setCell ⟨b, 6, none⟩ v6).setCell ⟨b, 7, none⟩ v7) :=
  (((((((h.set hb v0).set hb v1).set hb v2).set hb v3).set hb v4).set hb v5).set hb v6).set hb v7
theorem blk8 {w : World} {b : Nat} {u0 u1 u2 u3 u4 u5 u6 u7 : Value} {T : TypeId} (h : Blk w b #[u0, u1, u2, u3, u4, u5, u6, u7] T) (v0 v1 v2 v3 v4 v5 v6 v7 : Value) :
    Blk ((((((((w.setCell ⟨b, 0, none⟩ v0).setCell ⟨b, 1, none⟩ v1).setCell ⟨b, 2, none⟩ v2).setCell ⟨b, 3, none⟩ v3).setCell ⟨b, 4, none⟩ v4).setCell ⟨b, 5, none⟩ v5).setCell ⟨b, 6, none⟩ v6).setCell ⟨b, 7, none⟩ v7) b #[v0, v1, v2, v3, v4, v5, v6, v7] T :=
  ((((((((h.set 0 v0).set 1 v1).set 2 v2).set 3 v3).set 4 v4).set 5 v5).set 6 v6).set 7 v7).cast (by simp)
theorem results_row {fn : Func} {p u : Tmp} (h : fn.results = #[.cell p 30, .tmp u]) (tmps : Array Value) (w : World) (b : Nat) (x0 x1 x2 x3 x4 x5 x6 x7 : Int) (hp : tmps.getD p undef = .pointer (some ⟨b, 0, none⟩))
    (hb : Blk w b #[.int .u8 x0, .int .u8 x1, .int .u8 x2, .int .u8 x3, .int .u8 x4, .int .u8 x5, .int .u8 x6, .int .u8 x7] 30) (v vu : Value) (hv : v = .agg #[.int .u8 x0, .int .u8 x1, .int .u8 x2, .int .u8 x3, .int .u8 x4, .int .u8 x5, .int .u8 x6, .int .u8 x7]) (hu : tmps.getD u undef = vu) :
    (results fn tmps).run Try.prog w = .ok (.tuple #[v, vu]) w := by
  subst hv hu
  have z0 := hb.cell 0
  have z1 := hb.cell 1
  have z2 := hb.cell 2
  have z3 := hb.cell 3
  have z4 := hb.cell 4
  have z5 := hb.cell 5
  have z6 := hb.cell 6
  have z7 := hb.cell 7
  simp only [List.getElem?_toArray, List.getElem?_cons_zero, List.getElem?_cons_succ] at z0 z1 z2 z3 z4 z5 z6 z7
  rw [results_cell_tmp h, hp]
  simp [go_sem, z0, z1, z2, z3, z4, z5, z6, z7]
/-- What a segment that fits comes to. -/
def TakePost (r : Rcv) (g base q : Nat) (fl : Bool) (F : Nat → Int) (w : World) (e : Ending) (w' : World) : Prop :=
  ∃ V, e = .returned (.tuple #[if fl || q == r.size then aggF (ansF q r.size) else aggF (fun _ => 0), .bool (fl || q == r.size)]) ∧
    Hid (IsRcv w' g base (if fl || q == r.size then { r with doing := if fl then 1 else r.doing, came := 0, last := ansF q r.size, V := V, xs := r.xs ++ seven F } else { r with came := q, V := V, xs := r.xs ++ seven F }) ∧ Keep (RS r g) w w')
set_option maxRecDepth 100000 in
set_option maxHeartbeats 1000000 in
theorem takes_go {w : World} {g base : Nat} {r : Rcv} (h : IsRcv w g base r) (q : Nat) (fl : Bool) (hq : q = r.came + 1) (hq1 : q ≤ 127) (F : Nat → Int) (h0 : F 0 = (q : Int) + (if fl then 128 else 0)) (hb : ∀ k, 0 ≤ F k ∧ F k ≤ 255) (hx : r.xs.length + 7 ≤ 65543) :
    Calls Try.prog 31 #[.pointer (some ⟨g, 0, none⟩), aggF F] w (TakePost r g base q fl F w) := by
  have H := Lib.hid h
  have HB := Lib.hid hb
  obtain ⟨x0, hx0⟩ : ∃ x, x = F 0 := ⟨_, rfl⟩
  obtain ⟨cm, hcm⟩ : ∃ cm, cm = r.came := ⟨_, rfl⟩
  obtain ⟨sz, hsz⟩ : ∃ sz, sz = r.size := ⟨_, rfl⟩
  have HX := Lib.hid hx
  have HX0 := Lib.hid hx0
  have HCm := Lib.hid hcm
  have HSz := Lib.hid hsz
  have hgl := h.blk.lt
  have hq2 : q = cm + 1 := by omega
  have hs1 : sz ≤ 127 := by rw [hsz]; exact h.s1
  have hb1 : bits .andNot .u8 x0 128 = (q : Int) := by
    rw [hx0, h0]
    cases fl
    · simpa using (andNot128 q hq1).1
    · exact (andNot128 q hq1).2.1
  have hb2 : bits .and .u8 x0 128 = if fl then 128 else 0 := by
    rw [hx0, h0]
    cases fl
    · simpa using (andNot128 q hq1).2.2.1
    · exact (andNot128 q hq1).2.2.2
  have c2 : w.cell? ⟨g, 2, none⟩ = some (.int .i64 cm) := by rw [hcm]; exact h.blk.cell 2
  have hqc : (cm : Int) + 1 = (q : Int) := by omega
  have HQc := Lib.hid hqc
  have hcm126 : cm ≤ 126 := by omega
  obtain ⟨L, hL⟩ : ∃ L, L = r.xs.length := ⟨_, rfl⟩
  have HL := Lib.hid hL
  have hL7 : L + 7 ≤ 65543 := by omega
  obtain ⟨V, hV⟩ : ∃ V, V = r.V := ⟨_, rfl⟩
  have HV := Lib.hid hV
  unfold aggF
  rw [← hx0]
  clear h hb hx hx0 hcm hsz hq h0 hL hV hq2
  go_enter Try.func31, Try.ntmps31
  go_wp2_with fail
  go_quiet (fail)
  go_wp2_with fail
  obtain ⟨W0, hW0⟩ : ∃ x, x = ((w.alloc (.cells #[.int .u8 x0, .int .u8 (F 1), .int .u8 (F 2), .int .u8 (F 3), .int .u8 (F 4), .int .u8 (F 5), .int .u8 (F 6), .int .u8 (F 7)] 30)).alloc (.cells #[.int .u8 0, .int .u8 0, .int .u8 0, .int .u8 0, .int .u8 0, .int .u8 0, .int .u8 0, .int .u8 0] 30)).drewN nq := ⟨_, rfl⟩
  have HBf : Hid (Blk W0 w.heap.size #[.int .u8 x0, .int .u8 (F 1), .int .u8 (F 2), .int .u8 (F 3), .int .u8 (F 4), .int .u8 (F 5), .int .u8 (F 6), .int .u8 (F 7)] 30) := Lib.hid (by rw [hW0]; exact ((Blk.new w _ _).alloc _).drewN _)
  have HBz : Hid (Blk W0 (w.heap.size + 1) #[.int .u8 0, .int .u8 0, .int .u8 0, .int .u8 0, .int .u8 0, .int .u8 0, .int .u8 0, .int .u8 0] 30) := Lib.hid (by rw [hW0]; exact (Blk.at_ (by simp)).drewN _)
  have HK0 : Hid (Keep Own.Zero w W0) := Lib.hid (by rw [hW0]; exact (((Keep.refl Own.Zero w).alloc _).alloc _).drewN _)
  have HR0 : Hid (IsRcv W0 g base r) := Lib.hid (H.out.keep HK0.out (fun _ _ => id))
  have HO0 : Hid (W0.drew.ownsRow base 5 1 V L (ints .u8 r.xs)) := Lib.hid (by
    rw [HV.out, HL.out]
    exact (HR0.out.keep ((Keep.refl Own.Zero _).drew) (fun _ _ => id)).own)
  have HC11 : Hid (W0.drew.cell? ⟨g, 11, none⟩ = some V) := Lib.hid (by rw [HV.out]; exact (HR0.out.blk.drew).cell 11)
  have hsl := slice30 w.heap.size
  rw [← hW0]
  clear hW0 c2
  have c11 := HC11.out
  go_region_law (first | (refine step_app_own rfl (.tmp 21) (.tmp 22) 22 rfl base 5 (.int .u8 0) 1 1 under22 info5 rfl (by decide) V L (ints .u8 r.xs) rfl HO0.out (some ⟨w.heap.size, 1, none⟩) 7 7 (ints .u8 [F 1, F 2, F 3, F 4, F 5, F 6, F 7]) rfl rfl (fun h => by cases h) (row_seven HBf.out.drew) (ints_one _ _) (by unfold maxLen; omega) (by omega) HR0.out.bs ?_; intro v3 w3 hown3 hgr3; obtain ⟨A3, c3, rfl, _, _, _, _⟩ := Row.own hown3; have HO3 := Lib.hid hown3; have HG3 := Lib.hid hgr3; clear hown3 hgr3; have HB3 : Hid (Blk w3 g r.cells 66) := Lib.hid (Blk.grown HR0.out.blk.drew HG3.out (own_far HO0.out HR0.out.blk.drew (by decide))); have HC11 : Hid (w3.cell? ⟨g, 11, none⟩ = some V) := Lib.hid (by rw [HV.out]; exact HB3.out.cell 11); have c11 := HC11.out; have f11 : w3.frozen? ⟨g, 11, none⟩ = false := HB3.out.frozen 11))
  obtain ⟨W4, hW4⟩ : ∃ x, x = w3.setCell ⟨g, 11, none⟩ (.slice A3 (L + 7) c3) := ⟨_, rfl⟩
  have HNo : Hid (V.ownBlock ≠ some g ∧ V.ownBlock ≠ some w.heap.size ∧ V.ownBlock ≠ some (w.heap.size + 1)) := Lib.hid ⟨own_far HO0.out HR0.out.blk.drew (by decide), own_far HO0.out HBf.out.drew (by decide), own_far HO0.out HBz.out.drew (by decide)⟩
  have HBf4 : Hid (Blk W4 w.heap.size #[.int .u8 x0, .int .u8 (F 1), .int .u8 (F 2), .int .u8 (F 3), .int .u8 (F 4), .int .u8 (F 5), .int .u8 (F 6), .int .u8 (F 7)] 30) := Lib.hid (by
    rw [hW4]
    exact (Blk.grown HBf.out.drew HG3.out HNo.out.2.1).far (by show g ≠ w.heap.size; omega) _)
  have HBz4 : Hid (Blk W4 (w.heap.size + 1) #[.int .u8 0, .int .u8 0, .int .u8 0, .int .u8 0, .int .u8 0, .int .u8 0, .int .u8 0, .int .u8 0] 30) := Lib.hid (by
    rw [hW4]
    exact (Blk.grown HBz.out.drew HG3.out HNo.out.2.2).far (by show g ≠ w.heap.size + 1; omega) _)
  have HB4 : Hid (Blk W4 g { r with V := .slice A3 (L + 7) c3 }.cells 66) := Lib.hid (by
    rw [hW4]
    exact (HB3.out.set 11 _).cast (by simp [Rcv.cells]))
  have HK4 : Hid (Keep (RS r g) w W4) := Lib.hid (by
    rw [hW4]
    refine Keep.set ?_ (.inl (.inl rfl)) _
    refine ((HK0.out.mono (S' := RS r g) (fun _ h => h.elim)).drew).grown HG3.out (fun k hk => .inl (.inr ?_))
    rw [← HV.out]
    exact hk)
  have HO4 : Hid (W4.ownsRow base 5 1 (.slice A3 (L + 7) c3) (L + 7) (ints .u8 (r.xs ++ seven F))) := Lib.hid (by
    rw [hW4]
    have h := HO3.out
    rw [← ints_append] at h
    exact own_keep2 h ((Keep.refl (Own.One g) w3).set1 11 _) (fun i hi e => own_far h HB3.out (by decide) (by rw [hi, e])))
  have HR4 : Hid (IsRcv W4 g base { r with V := .slice A3 (L + 7) c3, xs := r.xs ++ seven F }) := Lib.hid ⟨HB4.out, by
      show W4.ownsRow base 5 1 (.slice A3 (L + 7) c3) (r.xs ++ seven F).length (ints .u8 (r.xs ++ seven F))
      rw [List.length_append, ← HL.out]
      exact HO4.out, by
      intro x hx
      rcases List.mem_append.1 hx with h | h
      · exact HR0.out.byte x h
      · unfold seven at h
        simp only [List.mem_cons, List.not_mem_nil, or_false] at h
        rcases h with rfl | rfl | rfl | rfl | rfl | rfl | rfl <;> exact HB.out _, HR0.out.s0, HR0.out.s1, HR0.out.c1, by
      show (r.xs ++ seven F).length ≤ 70000
      rw [List.length_append, ← HL.out]
      simp [seven]
      omega, Nat.le_trans H.out.bs HK4.out.size⟩
  have y0 : W4.cell? ⟨w.heap.size, 0, none⟩ = some (.int .u8 x0) := HBf4.out.cell 0
  have k11 : W4.cell? ⟨g, 11, none⟩ = some (.slice A3 (L + 7) c3) := HB4.out.cell 11
  have k2 : W4.cell? ⟨g, 2, none⟩ = some (.int .i64 cm) := by rw [HCm.out]; exact HB4.out.cell 2
  have f2 : W4.frozen? ⟨g, 2, none⟩ = false := HB4.out.frozen 2
  have k1 : W4.cell? ⟨g, 1, none⟩ = some (.int .i64 r.doing) := HB4.out.cell 1
  have f1 : W4.frozen? ⟨g, 1, none⟩ = false := HB4.out.frozen 1
  have k0 : W4.cell? ⟨g, 0, none⟩ = some (.int .i64 sz) := by rw [HSz.out]; exact HB4.out.cell 0
  have hlt : ¬ (65543 : Int) < (L : Int) + 7 := by omega
  rw [← hW4]
  clear hW4 c11 f11 hsl
  cases fl with
  | true =>
    have hb3 : bits .and .u8 x0 128 = 128 := hb2
    clear hb2
    go_wp2_with fail
    obtain ⟨W5, hW5⟩ : ∃ x, x = (W4.setCell ⟨g, 2, none⟩ (.int .i64 q)).setCell ⟨g, 1, none⟩ (.int .i64 1) := ⟨_, rfl⟩
    have HK5 : Hid (Keep (Own.One g) W4 W5) := Lib.hid (by rw [hW5]; exact ((Keep.refl (Own.One g) W4).set1 2 _).set1 1 _)
    have HR5 : Hid (IsRcv W5 g base { r with V := .slice A3 (L + 7) c3, xs := r.xs ++ seven F, came := q, doing := 1 }) := Lib.hid (HR4.out.turn HK5.out _ (by
      rw [hW5]
      exact ((HB4.out.set 2 _).set 1 _).cast (by simp [Rcv.cells])) rfl rfl rfl hq1)
    rw [← hW5]
    clear hW5
    refine (answers_ok (HR5.out)).mono ?_
    rintro e w6 ⟨rfl, hp⟩
    have HK6 : Hid (Keep (RS r g) w w6) := Lib.hid (HK4.out.trans ((HK5.out).trans hp.out.2 (fun k hk => .inl hk)) (fun k hk => .inl (.inl hk)))
    have HR6 := Lib.hid hp.out.1
    have HB6 : Hid (Blk w6 (w.heap.size + 1) #[.int .u8 0, .int .u8 0, .int .u8 0, .int .u8 0, .int .u8 0, .int .u8 0, .int .u8 0, .int .u8 0] 30) := Lib.hid ((HBz4.out.keep (HK5.out) (fun e => by have e' : w.heap.size + 1 = g := e; omega)).keep hp.out.2 (fun e => by have e' : w.heap.size + 1 = g := e; omega))
    have z0 := (HB6.out).cell 0
    have z1 := (HB6.out).cell 1
    have z2 := (HB6.out).cell 2
    have z3 := (HB6.out).cell 3
    have z4 := (HB6.out).cell 4
    have z5 := (HB6.out).cell 5
    have z6 := (HB6.out).cell 6
    have z7 := (HB6.out).cell 7
    have zf0 := (HB6.out).frozen 0
    have zf1 := (HB6.out).frozen 1
    have zf2 := (HB6.out).frozen 2
    have zf3 := (HB6.out).frozen 3
    have zf4 := (HB6.out).frozen 4
    have zf5 := (HB6.out).frozen 5
    have zf6 := (HB6.out).frozen 6
    have zf7 := (HB6.out).frozen 7
    simp only [List.getElem?_toArray, List.getElem?_cons_zero, List.getElem?_cons_succ] at z0 z1 z2 z3 z4 z5 z6 z7
    rw [aggF_ans]
    clear hp
    go_wp2_with fail
    refine bodyPost_ret (v := .tuple #[aggF (ansF q r.size), .bool true]) (results_row (p := 4) (u := 5) rfl _ _ (w.heap.size + 1) 162 q r.size 0 0 0 0 0 rfl (blk8 HB6.out _ _ _ _ _ _ _ _) _ _ rfl rfl) rfl ?_
    refine ⟨.slice A3 (L + 7) c3, by simp, Lib.hid ⟨?_, keep8 HK6.out (.inr (by omega)) _ _ _ _ _ _ _ _⟩⟩
    have h := HR6.out.keep (keep8 (Keep.refl (Own.One (w.heap.size + 1)) w6) (.inl rfl) (.int .u8 162) (.int .u8 q) (.int .u8 r.size) (.int .u8 0) (.int .u8 0) (.int .u8 0) (.int .u8 0) (.int .u8 0)) (fun i hi e => by
      rcases hi with rfl | hi
      · have e' : i = w.heap.size + 1 := e
        omega
      · exact own_far HR6.out.own HB6.out (by decide) (by rw [hi, e]))
    simp only [Bool.true_or, if_true]
    exact h
  | false =>
    have hb3 : bits .and .u8 x0 128 = 0 := hb2
    clear hb2
    go_wp2_with fail
    obtain ⟨W5, hW5⟩ : ∃ x, x = W4.setCell ⟨g, 2, none⟩ (.int .i64 q) := ⟨_, rfl⟩
    have HK5 : Hid (Keep (Own.One g) W4 W5) := Lib.hid (by rw [hW5]; exact (Keep.refl (Own.One g) W4).set1 2 _)
    have HR5 : Hid (IsRcv W5 g base { r with V := .slice A3 (L + 7) c3, xs := r.xs ++ seven F, came := q }) := Lib.hid (HR4.out.turn HK5.out _ (by
      rw [hW5]
      exact (HB4.out.set 2 _).cast (by simp [Rcv.cells])) rfl rfl rfl hq1)
    have k2 : W5.cell? ⟨g, 2, none⟩ = some (.int .i64 q) := HR5.out.blk.cell 2
    have k0 : W5.cell? ⟨g, 0, none⟩ = some (.int .i64 sz) := by rw [HSz.out]; exact HR5.out.blk.cell 0
    rw [← hW5]
    clear hW5
    have HQ := Lib.hid (fun m => HR5.out.keep ((Keep.refl Own.Zero W5).drewN m) (fun _ _ => id))
    have HKQ := Lib.hid (fun m => HK5.out.drewN m)
    by_cases hqs : q = sz
    · have hqs2 : ((sz : Int) = (q : Int)) := by omega
      have HE : Hid ((q == r.size) = true) := Lib.hid (by rw [beq_iff_eq, ← HSz.out]; exact hqs)
      clear hqs
      go_quiet (fail)
      go_wp2_with fail
      refine (answers_ok (HQ.out _)).mono ?_
      rintro e w6 ⟨rfl, hp⟩
      have HK6 : Hid (Keep (RS r g) w w6) := Lib.hid (HK4.out.trans ((HKQ.out _).trans hp.out.2 (fun k hk => .inl hk)) (fun k hk => .inl (.inl hk)))
      have HR6 := Lib.hid hp.out.1
      have HB6 : Hid (Blk w6 (w.heap.size + 1) #[.int .u8 0, .int .u8 0, .int .u8 0, .int .u8 0, .int .u8 0, .int .u8 0, .int .u8 0, .int .u8 0] 30) := Lib.hid ((HBz4.out.keep (HKQ.out _) (fun e => by have e' : w.heap.size + 1 = g := e; omega)).keep hp.out.2 (fun e => by have e' : w.heap.size + 1 = g := e; omega))
      have z0 := (HB6.out).cell 0
      have z1 := (HB6.out).cell 1
      have z2 := (HB6.out).cell 2
      have z3 := (HB6.out).cell 3
      have z4 := (HB6.out).cell 4
      have z5 := (HB6.out).cell 5
      have z6 := (HB6.out).cell 6
      have z7 := (HB6.out).cell 7
      have zf0 := (HB6.out).frozen 0
      have zf1 := (HB6.out).frozen 1
      have zf2 := (HB6.out).frozen 2
      have zf3 := (HB6.out).frozen 3
      have zf4 := (HB6.out).frozen 4
      have zf5 := (HB6.out).frozen 5
      have zf6 := (HB6.out).frozen 6
      have zf7 := (HB6.out).frozen 7
      simp only [List.getElem?_toArray, List.getElem?_cons_zero, List.getElem?_cons_succ] at z0 z1 z2 z3 z4 z5 z6 z7
      rw [aggF_ans]
      clear hp
      go_wp2_with fail
      refine bodyPost_ret (v := .tuple #[aggF (ansF q r.size), .bool true]) (results_row (p := 4) (u := 5) rfl _ _ (w.heap.size + 1) 162 q r.size 0 0 0 0 0 rfl (blk8 HB6.out _ _ _ _ _ _ _ _) _ _ rfl rfl) rfl ?_
      refine ⟨.slice A3 (L + 7) c3, by simp only [HE.out, Bool.or_true, if_true], Lib.hid ⟨?_, keep8 HK6.out (.inr (by omega)) _ _ _ _ _ _ _ _⟩⟩
      have h := HR6.out.keep (keep8 (Keep.refl (Own.One (w.heap.size + 1)) w6) (.inl rfl) (.int .u8 162) (.int .u8 q) (.int .u8 r.size) (.int .u8 0) (.int .u8 0) (.int .u8 0) (.int .u8 0) (.int .u8 0)) (fun i hi e => by
        rcases hi with rfl | hi
        · have e' : i = w.heap.size + 1 := e
          omega
        · exact own_far HR6.out.own HB6.out (by decide) (by rw [hi, e]))
      simp only [HE.out, Bool.or_true, if_true, Bool.false_eq_true, if_false]
      exact h
    · have hqs2 : ¬ (q : Int) = (sz : Int) := by omega
      have HE : Hid ((q == r.size) = false) := Lib.hid (by rw [beq_eq_false_iff_ne, ← HSz.out]; exact hqs)
      have HB5 : Hid (Blk W5 (w.heap.size + 1) #[.int .u8 0, .int .u8 0, .int .u8 0, .int .u8 0, .int .u8 0, .int .u8 0, .int .u8 0, .int .u8 0] 30) := Lib.hid (HBz4.out.keep HK5.out (fun e => by have e' : w.heap.size + 1 = g := e; omega))
      clear hqs k1 k11 f1 f2
      go_quiet (fail)
      obtain ⟨W9, hW9⟩ : ∃ x, x = W5.drewN nq := ⟨_, rfl⟩
      have HB9 : Hid (Blk W9 (w.heap.size + 1) #[.int .u8 0, .int .u8 0, .int .u8 0, .int .u8 0, .int .u8 0, .int .u8 0, .int .u8 0, .int .u8 0] 30) := Lib.hid (by rw [hW9]; exact HB5.out.drewN _)
      have HR9 : Hid (IsRcv W9 g base { r with V := .slice A3 (L + 7) c3, xs := r.xs ++ seven F, came := q }) := Lib.hid (by rw [hW9]; exact HQ.out _)
      have HK9 : Hid (Keep (RS r g) w W9) := Lib.hid (by rw [hW9]; exact (HK4.out.trans (HKQ.out _) (fun k hk => .inl (.inl hk))))
      rw [← hW9]
      clear hW9 k2 k0 y0
      clear hb1 hb3 hlt hL7 hcm126 hs1 hq1
      have z0 := (HB9.out).cell 0
      have z1 := (HB9.out).cell 1
      have z2 := (HB9.out).cell 2
      have z3 := (HB9.out).cell 3
      have z4 := (HB9.out).cell 4
      have z5 := (HB9.out).cell 5
      have z6 := (HB9.out).cell 6
      have z7 := (HB9.out).cell 7
      have zf0 := (HB9.out).frozen 0
      have zf1 := (HB9.out).frozen 1
      have zf2 := (HB9.out).frozen 2
      have zf3 := (HB9.out).frozen 3
      have zf4 := (HB9.out).frozen 4
      have zf5 := (HB9.out).frozen 5
      have zf6 := (HB9.out).frozen 6
      have zf7 := (HB9.out).frozen 7
      simp only [List.getElem?_toArray, List.getElem?_cons_zero, List.getElem?_cons_succ] at z0 z1 z2 z3 z4 z5 z6 z7
      go_wp2_with fail
      refine bodyPost_ret (v := .tuple #[aggF (fun _ => 0), .bool false]) (results_row (p := 4) (u := 5) rfl _ _ (w.heap.size + 1) 0 0 0 0 0 0 0 0 rfl (blk8 HB9.out _ _ _ _ _ _ _ _) _ _ rfl rfl) rfl ?_
      refine ⟨.slice A3 (L + 7) c3, by simp only [HE.out, Bool.or_self, Bool.false_eq_true, if_false], Lib.hid ⟨?_, keep8 HK9.out (.inr (by omega)) _ _ _ _ _ _ _ _⟩⟩
      have h := HR9.out.keep (keep8 (Keep.refl (Own.One (w.heap.size + 1)) W9) (.inl rfl) (.int .u8 0) (.int .u8 0) (.int .u8 0) (.int .u8 0) (.int .u8 0) (.int .u8 0) (.int .u8 0) (.int .u8 0)) (fun i hi e => by
        rcases hi with rfl | hi
        · have e' : i = w.heap.size + 1 := e
          omega
        · exact own_far HR9.out.own HB9.out (by decide) (by rw [hi, e]))
      simp only [HE.out, Bool.or_self, Bool.false_eq_true, if_false]
      exact h
end Go.Proofs.Ytdmomhbimhggiaa.Block
