/- Addresses are compared; the nodes are copied. -/
import Derived.Test.YtcmfcnljdeddfaaNumL
import Derived.Test.YtcmfcnljdeddfaaTopC
import Derived.Laws.StructEq
namespace Go.Proofs.Ytcmfcnljdeddfaa.Num
open Go.RowKit Go.Proofs.Ytcmfcnljdeddfaa.Own Go.Proofs.Ytcmfcnljdeddfaa.Crc
theorem under56 : Try.prog.underlying 56 = some (.int .u32) := by kernel_rfl
theorem under57 : Try.prog.underlying 57 = some (.array 4 56) := by kernel_rfl
theorem size56 (w : World) : (sizeOf 56).run Try.prog w = .ok 1 w := by
  simp [go_sem]
theorem part56 (cs : Array Value) (i : Nat) (x : Int) (h : cs[i]? = some (.int .u32 x)) (w : World) : (part 56 cs (i * 1)).run Try.prog w = .ok (.int .u32 x) w := by
  simp [part, isAgg, run_underlying under56, h]
theorem eqIn57 (d : Nat) (a0 a1 a2 a3 b0 b1 b2 b3 : Int) (w : World) : (Op.equalIn (d + 2) 57 (.agg #[.int .u32 a0, .int .u32 a1, .int .u32 a2, .int .u32 a3]) (.agg #[.int .u32 b0, .int .u32 b1, .int .u32 b2, .int .u32 b3])).run Try.prog w = .ok (decide (a0 = b0 ∧ a1 = b1 ∧ a2 = b2 ∧ a3 = b3)) w := by
  rw [Op.equalIn]
  simp only [Sem.run_bind, run_underlying under57, Result.andThen_ok, size56, Std.Legacy.Range.forIn_eq_forIn_range', Std.Legacy.Range.size, Nat.sub_zero, Nat.add_sub_cancel, Nat.div_one]
  have hr : List.range' 0 4 1 = [0, 1, 2, 3] := rfl
  have pe := fun x y : Int => run_equalIn_int w d 56 .u32 .u32 x y under56
  rw [hr]
  simp only [List.forIn_cons, List.forIn_nil, Sem.run_bind]
  by_cases h0 : a0 = b0
  · by_cases h1 : a1 = b1
    · by_cases h2 : a2 = b2
      · by_cases h3 : a3 = b3
        · simp [h0, h1, h2, h3, pe, part, isAgg, run_underlying under56]
        · simp [h0, h1, h2, h3, pe, part, isAgg, run_underlying under56]
      · simp [h0, h1, h2, pe, part, isAgg, run_underlying under56]
    · simp [h0, h1, pe, part, isAgg, run_underlying under56]
  · simp [h0, pe, part, isAgg, run_underlying under56]
theorem eql57 (a0 a1 a2 a3 b0 b1 b2 b3 : Int) (w : World) : Sem.run Try.prog (binOp .eql 57 (.agg #[.int .u32 a0, .int .u32 a1, .int .u32 a2, .int .u32 a3]) (.agg #[.int .u32 b0, .int .u32 b1, .int .u32 b2, .int .u32 b3])) w = .ok (.bool (decide (a0 = b0 ∧ a1 = b1 ∧ a2 = b2 ∧ a3 = b3))) w := by
  rw [run_eql_struct, eqIn57 9998]
  rfl
theorem under52 : Try.prog.underlying 52 = some (.slice 59) := by kernel_rfl
theorem info59 : (Try.prog.info? 59).map (fun i => (i.zero, i.size, i.bytes)) = some (some (.agg #[.int .u32 0, .int .u32 0, .int .u32 0, .int .u32 0, .int .i64 0]), 5, 24) := by kernel_rfl
theorem under42 : Try.prog.underlying 42 = some (.slice 3) := by kernel_rfl
theorem info3 : (Try.prog.info? 3).map (fun i => (i.zero, i.size, i.bytes)) = some (some (.int .i64 0), 1, 8) := by kernel_rfl
/-- Nodes, cell by cell. -/
def flatN (A : Nat → Nat → Int) (Z : Nat → Int) (L : Nat) : List Value := (List.range (L * 5)).map fun t => if t % 5 = 4 then .int .i64 (Z (t / 5)) else .int .u32 (A (t / 5) (t % 5))
theorem flatN_len (A : Nat → Nat → Int) (Z : Nat → Int) (L : Nat) : (flatN A Z L).length = L * 5 := by simp [flatN]
theorem flatN_one (A : Nat → Nat → Int) (Z : Nat → Int) (L : Nat) : ∀ u ∈ flatN A Z L, u.oneCell' = true := fun u hu => by
  obtain ⟨t, _, rfl⟩ := List.mem_map.1 hu
  split <;> rfl
theorem flatN_addr (A : Nat → Nat → Int) (Z : Nat → Int) {L i k : Nat} (hi : i < L) (hk : k < 4) : (flatN A Z L)[i * 5 + k]? = some (.int .u32 (A i k)) := by
  unfold flatN
  rw [List.getElem?_map, List.getElem?_range (by omega), Option.map_some, if_neg (by omega)]
  rw [show (i * 5 + k) / 5 = i by omega, show (i * 5 + k) % 5 = k by omega]
theorem flatN_id (A : Nat → Nat → Int) (Z : Nat → Int) {L i : Nat} (hi : i < L) : (flatN A Z L)[i * 5 + 4]? = some (.int .i64 (Z i)) := by
  unfold flatN
  rw [List.getElem?_map, List.getElem?_range (by omega), Option.map_some, if_pos (by omega)]
  rw [show (i * 5 + 4) / 5 = i by omega]
/-- A copy of nodes; the first ones have no number. -/
def FreeAt (w : World) (base : Nat) (P : Option Addr) (L : Nat) (A : Nat → Nat → Int) (j : Nat) : Prop :=
  0 < L → ∃ q cs, P = some ⟨q, 0, none⟩ ∧ Blk w q cs 59 ∧ base ≤ q ∧ (∀ i k, i < L → k < 4 → cs[i * 5 + k]? = some (.int .u32 (A i k))) ∧ ∀ i, i < L → ∃ z, cs[i * 5 + 4]? = some (.int .i64 z) ∧ (i < j → z = 0)
theorem free_own {w : World} {base L : Nat} {v : Value} {A : Nat → Nat → Int} {Z : Nat → Int} (h : w.ownsRow base 59 5 v (0 + L) ([] ++ flatN A Z L)) : ∃ P c, v = .slice P L c ∧ FreeAt w base P L A 0 := by
  rw [Nat.zero_add, List.nil_append] at h
  obtain ⟨hl, h | ⟨q, cap, cur, rfl, hb, hh, hn, hm, hcs, ht⟩⟩ := h
  · obtain ⟨rfl, rfl⟩ := h
    exact ⟨none, 0, rfl, fun h0 => absurd h0 (by decide)⟩
  · have hc : ∀ t, t < L * 5 → cur[t]? = (flatN A Z L)[t]? := fun t ht2 => by
      rw [← ht, List.getElem?_take, if_pos (by omega), Array.getElem?_toList]
    refine ⟨some ⟨q, 0, none⟩, cap, rfl, fun _ => ⟨q, cur, rfl, hh, hb, fun i k hi hk => ?_, fun i hi => ⟨Z i, ?_, fun h0 => absurd h0 (by omega)⟩⟩⟩
    · rw [hc _ (by omega)]
      exact flatN_addr A Z hi hk
    · rw [hc _ (by omega)]
      exact flatN_id A Z hi
theorem FreeAt.keep {S : Nat → Prop} {w w1 : World} {base L j : Nat} {P : Option Addr} {A : Nat → Nat → Int} (h : FreeAt w base P L A j) (k : Keep S w w1) (hs : ∀ a, P = some a → 0 < L → ¬ S a.block) : FreeAt w1 base P L A j := fun h0 => by
  obtain ⟨q, cs, hP, hb, r⟩ := h h0
  exact ⟨q, cs, hP, hb.keep k (hs _ hP h0), r⟩
theorem FreeAt.put {w : World} {base L j q : Nat} {A : Nat → Nat → Int} (h : FreeAt w base (some ⟨q, 0, none⟩) L A j) (hj : j < L) : FreeAt (w.setCell ⟨q, j * 5 + 4, none⟩ (.int .i64 0)) base (some ⟨q, 0, none⟩) L A (j + 1) := fun h0 => by
  obtain ⟨q', cs, hP, hb, hq, h1, h2⟩ := h h0
  cases hP
  have hsz : j * 5 + 4 < cs.size := by
    obtain ⟨z, hz, _⟩ := h2 j hj
    exact (Array.getElem?_eq_some_iff.1 hz).1
  refine ⟨q, _, rfl, hb.set _ _, hq, fun i k hi hk => ?_, fun i hi => ?_⟩
  · rw [Array.getElem?_setIfInBounds, if_neg (by omega)]
    exact h1 i k hi hk
  · by_cases e : i = j
    · subst e
      exact ⟨0, by rw [Array.getElem?_setIfInBounds, if_pos rfl, if_pos hsz], fun _ => rfl⟩
    · obtain ⟨z, hz, hz0⟩ := h2 i hi
      exact ⟨z, by rw [Array.getElem?_setIfInBounds, if_neg (by omega)]; exact hz, fun hij => hz0 (by omega)⟩
theorem FreeAt.nodes {w : World} {base L : Nat} {P : Option Addr} {A : Nat → Nat → Int} (h : FreeAt w base P L A L) (hw : ∀ i k, 0 ≤ A i k ∧ A i k < 4294967296) : NodesAt w P L A := by
  refine ⟨fun i hi => ?_, hw⟩
  obtain ⟨q, cs, rfl, hb, _, h1, h2⟩ := h (by omega)
  obtain ⟨z, hz, hz0⟩ := h2 i hi
  obtain rfl := hz0 hi
  refine ⟨q, 0, rfl, hb.lt, ?_, ?_, ?_, ?_, ?_⟩
  all_goals rw [hb.cell]
  · simpa using h1 i 0 hi (by decide)
  · simpa using h1 i 1 hi (by decide)
  · simpa using h1 i 2 hi (by decide)
  · simpa using h1 i 3 hi (by decide)
  · simpa using hz
section
variable {P : Program} {w : World} {ops : Array Oper} {rest : List Oper} {o : Oper} {a : Act} {K : Act → World → Prop} {Q : Exit → Act → World → Prop}
theorem step_app_own {E : Prop} (hgd : o.guard = none) (s x : Operand) (t : TypeId)
    (ho : o.op = .call { callee := .builtin .append, args := #[s, x], argTypes := #[t, t] })
    (base : Nat) (e : TypeId) (z : Value) (size bytes : Nat) (ht : P.underlying t = some (.slice e)) (hi : (P.info? e).map (fun i => (i.zero, i.size, i.bytes)) = some (some z, size, bytes))
    (hzs : z.cells.size = size) (hsz : 0 < size)
    (v : Value) (n : Nat) (xs : List Value) (hs : a.eval s = v) (hown : w.ownsRow base e size v n xs)
    (A : Option Addr) (m c : Nat) (news : List Value) (hx : a.eval x = .slice A m c) (hl : news.length = m * size) (hnil : A = none → c = 0) (hnews : Row w A news) (h1 : ∀ u ∈ news, u.oneCell' = true)
    (h63 : n + m ≤ maxLen) (hbytes : (n + m) * bytes ≤ 140737488355328) (hbase : base ≤ w.heap.size)
    (h : ∀ v' w', w'.ownsRow base e size v' (n + m) (xs ++ news) → w.grownBy w' v.ownBlock → K (a.put o.dst v') w') :
    if Region.wanted o (yielded ops a.tmps) = true then Oper.wp P o a w K Q else E := by
  rw [if_pos (by simp [Region.wanted, hgd])]
  exact wp_app s x t ho base e z size bytes ht hi hzs hsz v n xs hs hown A m c news hx hl hnil hnews h1 h63 hbytes hbase h
end
end Go.Proofs.Ytcmfcnljdeddfaa.Num
