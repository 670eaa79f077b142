/- What a half's puts comes to: plain law, and the small laws of its walk. -/
import Derived.Test.YtgegpeicpbhnkaaNvmF
import Derived.Laws.CopyOwn
import Derived.Laws.Cover3
namespace Go.Proofs.Ytgegpeicpbhnkaa.Nvm
open Go.RowKit Go.Proofs.Ytgegpeicpbhnkaa.Own Go.Proofs.Ytgegpeicpbhnkaa.Crc
def pageOf (xs : List Int) (i : Nat) : Nat → Int := fun r => (xs.drop (8 * i)).getD r 0
def headB (c : Int) (xs : List Int) : Nat → Int := fun r => (headL c xs.length ++ [((crc (headL c xs.length ++ xs) : Nat) : Int) % 256, ((crc (headL c xs.length ++ xs) : Nat) : Int) / 256]).getD r 0
/-- The pages of the bytes, one behind the other: k are left, the next one is page i. -/
def putsGo (f : Nat) (xs : List Int) : Nat → Nat → Ch → Bool × Ch
  | 0, _, c => (true, c)
  | k + 1, i, c => if (c.write ((f : Int) + ((i : Int) + 1)) (pageOf xs i)).1 then putsGo f xs k (i + 1) (c.write ((f : Int) + ((i : Int) + 1)) (pageOf xs i)).2 else (false, (c.write ((f : Int) + ((i : Int) + 1)) (pageOf xs i)).2)
def pagesOf (xs : List Int) : Nat := (xs.length + 7) / 8
/-- A half's puts. -/
def putsF (c : Ch) (f : Nat) (cnt : Int) (xs : List Int) : Bool × Ch :=
  if (c.write f (fun _ => 0)).1 then
    (if (putsGo f xs (pagesOf xs) 0 (c.write f (fun _ => 0)).2).1 then (putsGo f xs (pagesOf xs) 0 (c.write f (fun _ => 0)).2).2.write f (headB cnt xs) else (false, (putsGo f xs (pagesOf xs) 0 (c.write f (fun _ => 0)).2).2))
  else (false, (c.write f (fun _ => 0)).2)
theorem Ch.write_n (c : Ch) (k : Int) (b : Nat → Int) : (c.write k b).2.n = c.n := by
  unfold Ch.write
  split
  · split <;> rfl
  · rfl
theorem putsGo_pg (f : Nat) (xs : List Int) : ∀ (k i : Nat) (c : Ch), (putsGo f xs k i c).2.pg = c.pg ∧ (putsGo f xs k i c).2.n = c.n
  | 0, i, c => ⟨rfl, rfl⟩
  | k + 1, i, c => by
    have h1 := c.write_pg ((f : Int) + ((i : Int) + 1)) (pageOf xs i)
    have h2 := c.write_n ((f : Int) + ((i : Int) + 1)) (pageOf xs i)
    unfold putsGo
    split
    · have := putsGo_pg f xs k (i + 1) (c.write ((f : Int) + ((i : Int) + 1)) (pageOf xs i)).2
      exact ⟨this.1.trans h1, this.2.trans h2⟩
    · exact ⟨h1, h2⟩
def pageC (b : Nat → Int) : Array Value := #[.int .u8 (b 0), .int .u8 (b 1), .int .u8 (b 2), .int .u8 (b 3), .int .u8 (b 4), .int .u8 (b 5), .int .u8 (b 6), .int .u8 (b 7)]
theorem getD_bound {ys : List Int} (h : ∀ y ∈ ys, 0 ≤ y ∧ y ≤ 255) (r : Nat) : 0 ≤ ys.getD r 0 ∧ ys.getD r 0 ≤ 255 := by
  rw [List.getD_eq_getElem?_getD]
  cases hr : ys[r]? with
  | none => simp
  | some y => exact h y (List.mem_of_getElem? hr)
theorem page_copied (ys : List Int) (k : Nat) (hk : k = min ys.length 8) :
    ((#[.int .u8 0, .int .u8 0, .int .u8 0, .int .u8 0, .int .u8 0, .int .u8 0, .int .u8 0, .int .u8 0] : Array Value).toList.take 0 ++ (ints .u8 (ys.take 8) ++ (#[.int .u8 0, .int .u8 0, .int .u8 0, .int .u8 0, .int .u8 0, .int .u8 0, .int .u8 0, .int .u8 0] : Array Value).toList.drop (0 + k))).toArray = pageC (fun r => ys.getD r 0) := by
  subst hk
  rcases ys with _ | ⟨y0, _ | ⟨y1, _ | ⟨y2, _ | ⟨y3, _ | ⟨y4, _ | ⟨y5, _ | ⟨y6, _ | ⟨y7, r⟩⟩⟩⟩⟩⟩⟩⟩
  all_goals first | rfl | (simp [ints, pageC]) | skip
theorem slice22_l (w : World) (b o n c k : Nat) (hk : k ≤ n) (_hc : n ≤ c) (h : Int) (hh : h = k) :
    Sem.run Try.prog (Instr.slice 22 (.slice (some ⟨b, o, none⟩) n c) (some (.int .i64 h)) none none) w = .ok (.slice (some (if c = k then ⟨b, o, none⟩ else ⟨b, o + k, none⟩)) (n - k) (c - k)) w := by
  subst hh
  have hu : Try.prog.underlying 22 = some (.slice (Try.prog.elem 22)) := by kernel_rfl
  rw [run_slice_l w 22 _ n c hu .i64 k (by omega) (by omega)]
  simp [sliced, go_sem]
  split <;> rfl
theorem setRow_keep (w : World) (g : Nat) (cs : Array Value) : Keep (Own.One g) w (w.setRow g cs) :=
  ⟨rfl, rfl, rfl, by simp [World.setRow], fun k _ hn => setRow_other w g k cs (fun e => hn e)⟩
theorem setRow_blk {w : World} {g : Nat} {cs0 : Array Value} {T : TypeId} (h : Blk w g cs0 T) (cs : Array Value) : Blk (w.setRow g cs) g cs T := by
  have hl := h.lt
  unfold Blk at h ⊢
  simp only [World.setRow, Array.getElem?_modify, if_true, h, Option.map_some]
section
variable {w : World} {ops : Array Oper} {rest : List Oper} {o : Oper} {a : Act} {Q : Exit → Act → World → Prop}
/-- copy(p[:], b): a page of the bytes that are left. -/
theorem copy_page (hgd : o.guard = none) (d s : Operand) (ho : o.op = .call { callee := .builtin .copy, args := #[d, s], argTypes := #[22, 22] })
    (q b off n c : Nat) (hd : a.eval d = .slice (some ⟨q, 0, none⟩) 8 8) (hs : a.eval s = .slice (some ⟨b, off, none⟩) n c)
    (hq : Blk w q #[.int .u8 0, .int .u8 0, .int .u8 0, .int .u8 0, .int .u8 0, .int .u8 0, .int .u8 0, .int .u8 0] 44) (ys : List Int) (hn : ys.length = n) (hr : Row w (some ⟨b, off, none⟩) (ints .u8 ys)) (k : Nat) (hk : k = min n 8)
    (h : ∀ X, Blk X q (pageC (fun r => ys.getD r 0)) 44 → Keep (Own.One q) w X → wpList Try.prog ops Q rest (a.put o.dst (.int .i64 k)) X) : wpList Try.prog ops Q (o :: rest) a w := by
  have hlen : (ints .u8 (ys.take 8)).length = k := by rw [ints_length, List.length_take, hn]; omega
  refine wpList_copy_own hgd d s 22 22 ho 5 under22 (by kernel_rfl) q 0 8 8 ⟨b, off, none⟩ n c hd hs _ 44 hq (ints .u8 (ys.take 8)) (by rw [hlen, hk]) (fun j v hv => ?_) (by rw [hlen]; simp; omega) (ints_one _ _) ?_
  · have hj : (ints .u8 ys)[j]? = some v := by
      rw [ints_get] at hv ⊢
      rw [List.getElem?_take] at hv
      split at hv
      · exact hv
      · simp at hv
    obtain ⟨b', o', e, _, hc⟩ := hr j v hj
    cases e
    unfold Addr.add
    split <;> simp_all
  · rw [hlen]
    have e := page_copied ys k (by rw [hn]; exact hk)
    rw [e]
    exact h _ (setRow_blk hq _) (setRow_keep _ _ _)
end
section
variable {w : World} {ops : Array Oper} {rest : List Oper} {o : Oper} {a : Act} {K : Act → World → Prop} {Q : Exit → Act → World → Prop}
/-- append(v, row...) of a row of one's own, at a step of a region that draws its order. -/
theorem step_app {E : Prop} (hgd : o.guard = none) (s x : Operand)
    (ho : o.op = .call { callee := .builtin .append, args := #[s, x], argTypes := #[22, 22] })
    (base : Nat) (v : Value) (n : Nat) (xs : List Value) (hs : a.eval s = v) (hown : w.ownsRow base 5 1 v n xs)
    (A : Option Addr) (m c : Nat) (news : List Value) (hx : a.eval x = .slice A m c) (hl : news.length = m) (hnil : A = none → c = 0) (hnews : Row w A news) (h1 : ∀ u ∈ news, u.oneCell' = true)
    (h63 : n + m ≤ 140737488355328) (hbase : base ≤ w.heap.size)
    (h : ∀ v' w', w'.ownsRow base 5 1 v' (n + m) (xs ++ news) → w.grownBy w' v.ownBlock → K (a.put o.dst v') w') :
    if Region.wanted o (yielded ops a.tmps) = true then Oper.wp Try.prog o a w K Q else E := by
  rw [if_pos (by simp [Region.wanted, hgd])]
  exact wp_app s x 22 ho base 5 (.int .u8 0) 1 1 under22 info5 rfl (by decide) v n xs hs hown A m c news hx (by omega) hnil hnews h1 (by unfold maxLen; omega) (by omega) hbase h
end
theorem own8 {w : World} {base : Nat} {v : Value} {zs : List Int} (h : w.ownsRow base 5 1 v 8 (ints .u8 zs)) :
    ∃ q cap, v = .slice (some ⟨q, 0, none⟩) 8 cap ∧ base ≤ q ∧ ∀ (j : Nat), j < 8 → w.cell? ⟨q, j, none⟩ = some (.int .u8 (zs.getD j 0)) := by
  obtain ⟨hl, ⟨_, h0⟩ | ⟨q, cap, cur, hv, hb, hh, hn, hm, hcs, ht⟩⟩ := h
  · cases h0
  · refine ⟨q, cap, hv, hb, fun j hj => ?_⟩
    have hl8 : zs.length = 8 := by rw [ints_length] at hl; omega
    have hz : zs[j]? = some (zs.getD j 0) := by
      rw [List.getD_eq_getElem?_getD, List.getElem?_eq_getElem (by omega)]
      rfl
    have hc : (cur.toList.take (8 * 1))[j]? = some (.int .u8 (zs.getD j 0)) := by
      rw [ht, ints_get, hz]
      rfl
    rw [List.getElem?_take, if_pos (by omega), Array.getElem?_toList] at hc
    rw [Blk.cell (T := 5) hh, hc]
theorem head_own {w : World} {hh : Nat} {c n : Int} (h : Blk w hh (ints .u8 (headL c n)).toArray 5) : w.ownsRow hh 5 1 (.slice (some ⟨hh, 0, none⟩) 6 6) 6 (ints .u8 (headL c n)) :=
  ⟨rfl, .inr ⟨hh, 6, _, rfl, Nat.le_refl _, h, Nat.le_refl _, by unfold maxLen; omega, rfl, rfl⟩⟩
theorem arr44 (w : World) (b cap : Nat) : (Instr.arrayAt 44 (.slice (some ⟨b, 0, none⟩) 8 cap)).run Try.prog w = .ok (.pointer (some ⟨b, 0, none⟩)) w :=
  run_arrayAt w 44 5 8 _ 8 cap (by kernel_rfl) (Nat.le_refl _)
end Go.Proofs.Ytgegpeicpbhnkaa.Nvm
