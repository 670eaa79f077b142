/- The sender's frames. -/
import Derived.Test.YtdmomhbimhggiaaBlockB
import Derived.Deep.RegionHeldLaw
import Derived.Deep.RegionHeld3
namespace Go.Proofs.Ytdmomhbimhggiaa.Block
open Go.RowKit Go.Proofs.Ytdmomhbimhggiaa.Own Go.Proofs.Ytdmomhbimhggiaa.Crc
/-- Byte k of the frame that bears segment n, the i-th of its block. -/
def segF (bs : List Int) (n i : Nat) (k : Nat) : Int := if k = 0 then (i : Int) + 1 + (if n + 1 = segs bs then 128 else 0) else bs.getD (7 * n + (k - 1)) 0
def cells8 (f : Nat → Int) : List Value := [.int .u8 (f 0), .int .u8 (f 1), .int .u8 (f 2), .int .u8 (f 3), .int .u8 (f 4), .int .u8 (f 5), .int .u8 (f 6), .int .u8 (f 7)]
def cellsOf (l : List (Nat → Int)) : List Value := l.flatMap cells8
def framesF (bs : List Int) (at' many : Nat) : List (Nat → Int) := (List.range many).map (fun i => segF bs (at' + i) i)
/-- Frames at a slice. -/
def FrAt (w : World) (base : Nat) (A : Option Addr) (m c : Nat) (l : List (Nat → Int)) : Prop := w.ownsRow base 30 8 (.slice A m c) m (cellsOf l)
theorem own_mono {w : World} {base base' : Nat} {e : TypeId} {size n : Nat} {v : Value} {vs : List Value} (h : w.ownsRow base e size v n vs) (hb : base' ≤ base) : w.ownsRow base' e size v n vs := by
  obtain ⟨h1, h2 | ⟨g, cap, cur, h3, h4, h5⟩⟩ := h
  · exact ⟨h1, .inl h2⟩
  · exact ⟨h1, .inr ⟨g, cap, cur, h3, Nat.le_trans hb h4, h5⟩⟩
theorem cellsOf_length (l : List (Nat → Int)) : (cellsOf l).length = l.length * 8 := by
  induction l with
  | nil => rfl
  | cons f l ih =>
    unfold cellsOf at ih ⊢
    rw [List.flatMap_cons, List.length_append, ih, List.length_cons]
    simp [cells8]
    omega
theorem cellsOf_append (l m : List (Nat → Int)) : cellsOf (l ++ m) = cellsOf l ++ cellsOf m := List.flatMap_append
theorem framesF_succ (bs : List Int) (at' m : Nat) : framesF bs at' (m + 1) = framesF bs at' m ++ [segF bs (at' + m) m] := by
  unfold framesF
  rw [List.range_succ, List.map_append]
  rfl
theorem setRow_keep (w : World) (g : Nat) (cs : Array Value) : Keep (Own.One g) w (w.setRow g cs) :=
  ⟨rfl, rfl, rfl, by simp [World.setRow], fun k _ hn => setRow_other w g k cs (fun e => hn e)⟩
theorem setRow_blk {w : World} {g : Nat} {cs0 : Array Value} {T : TypeId} (h : Blk w g cs0 T) (cs : Array Value) : Blk (w.setRow g cs) g cs T := by
  have hl := h.lt
  unfold Blk at h ⊢
  simp only [World.setRow, Array.getElem?_modify, if_true, h, Option.map_some]
def frame0 (x : Int) : Array Value := #[.int .u8 x, .int .u8 0, .int .u8 0, .int .u8 0, .int .u8 0, .int .u8 0, .int .u8 0, .int .u8 0]
def frameC (f : Nat → Int) : Array Value := #[.int .u8 (f 0), .int .u8 (f 1), .int .u8 (f 2), .int .u8 (f 3), .int .u8 (f 4), .int .u8 (f 5), .int .u8 (f 6), .int .u8 (f 7)]
def laid (x : Int) (ys : List Int) : Nat → Int := fun k => if k = 0 then x else ys.getD (k - 1) 0
theorem frame_copied (x : Int) (ys : List Int) (h : ys.length ≤ 7) : ((frame0 x).toList.take 1 ++ ints .u8 ys ++ (frame0 x).toList.drop (1 + (ints .u8 ys).length)).toArray = frameC (laid x ys) := by
  rcases ys with _ | ⟨y0, _ | ⟨y1, _ | ⟨y2, _ | ⟨y3, _ | ⟨y4, _ | ⟨y5, _ | ⟨y6, _ | ⟨y7, r⟩⟩⟩⟩⟩⟩⟩⟩
  all_goals first | rfl | (exfalso; simp at h)
section
variable {w : World} {ops : Array Oper} {rest : List Oper} {o : Oper} {a : Act} {K : Act → World → Prop} {Q : Exit → Act → World → Prop}
/-- copy(f[1:], ys): at a step of a region that draws its order. -/
theorem step_copy {E : Prop} (hgd : o.guard = none) (d s : Operand) (ho : o.op = .call { callee := .builtin .copy, args := #[d, s], argTypes := #[22, 22] })
    (q : Nat) (hd : a.eval d = .slice (some ⟨q, 1, none⟩) 7 7) (A : Option Addr) (n c : Nat) (hs : a.eval s = .slice A n c) (x : Int)
    (hq : Blk w q (frame0 x) 30) (ys : List Int) (hn : ys.length = n) (h7 : n ≤ 7) (hr : Row w A (ints .u8 ys))
    (h : ∀ X, Blk X q (frameC (laid x ys)) 30 → Keep (Own.One q) w X → K (a.put o.dst (.int .i64 n)) X) :
    if Region.wanted o (yielded ops a.tmps) = true then Oper.wp Try.prog o a w K Q else E := by
  rw [if_pos (by simp [Region.wanted, hgd])]
  have hi5 : (Try.prog.info? 5).map (·.size) = some 1 := by kernel_rfl
  have hl : (ints .u8 ys).length = n := by rw [ints_length, hn]
  have hrun : ∃ X, (Builtin.copy_ #[22, 22] o.type #[.slice (some ⟨q, 1, none⟩) 7 7, .slice A n c]).run Try.prog w = .ok (goInt n) X ∧ Blk X q (frameC (laid x ys)) 30 ∧ Keep (Own.One q) w X := by
    rcases Nat.eq_zero_or_pos n with rfl | h0
    · obtain rfl : ys = [] := List.length_eq_zero_iff.1 hn
      exact ⟨w, run_copy_none w 22 22 o.type 5 _ A 7 7 0 c under22 hi5 rfl, hq.cast (frame_copied x [] (by simp)).symm.symm, Keep.refl _ _⟩
    · obtain ⟨y, hy⟩ : ∃ y, ys[0]? = some y := ⟨ys[0]'(by omega), List.getElem?_eq_getElem _⟩
      obtain ⟨b, off, rfl, _, _⟩ := hr 0 (.int .u8 y) (by rw [ints_get, hy]; rfl)
      refine ⟨_, (run_copy_row (P := Try.prog) w 22 22 o.type 5 q 1 7 7 ⟨b, off, none⟩ n c (frame0 x) 30 (ints .u8 ys) under22 hi5 hq (by rw [hl]; exact (Nat.min_eq_left h7).symm) (fun j v hv => ?_) (by rw [hl]; simp [frame0]; omega) (ints_one _ _)).trans (by rw [hl]), ?_, setRow_keep _ _ _⟩
      · obtain ⟨b', o', e, _, hc⟩ := hr j v hv
        cases e
        unfold Addr.add
        split <;> simp_all
      · rw [← hl, frame_copied x ys (by omega)]
        exact setRow_blk hq _
  obtain ⟨X, hX, hB, hK⟩ := hrun
  unfold Oper.wp
  simp [execOp, ho, resolve, invoke, builtin, hd, hs, hX, Result.andThen]
  exact h X hB hK
/-- min of two. -/
theorem wp_min (d s : Operand) (ho : o.op = .call { callee := .builtin .min, args := #[d, s], argTypes := #[3, 3] })
    (x y z : Int) (hd : a.eval d = .int .i64 x) (hs : a.eval s = .int .i64 y) (hz : (if y < x then y else x) = z) (h : K (a.put o.dst (.int .i64 z)) w) : o.wp Try.prog a w K Q := by
  unfold Oper.wp
  simp only [execOp, ho, resolve, invoke, builtin]
  simp [run_min_int2, hd, hs, hz, Result.andThen]
  exact h
theorem app_min (hgd : o.guard = none) (d s : Operand) (ho : o.op = .call { callee := .builtin .min, args := #[d, s], argTypes := #[3, 3] })
    (x y z : Int) (hd : a.eval d = .int .i64 x) (hs : a.eval s = .int .i64 y) (hz : (if y < x then y else x) = z) (h : wpList Try.prog ops Q rest (a.put o.dst (.int .i64 z)) w) : wpList Try.prog ops Q (o :: rest) a w :=
  wpList_plain hgd fun _ hK => wp_min d s ho x y z hd hs hz (hK _ _ h)
theorem step_min {E : Prop} (hgd : o.guard = none) (d s : Operand) (ho : o.op = .call { callee := .builtin .min, args := #[d, s], argTypes := #[3, 3] })
    (x y z : Int) (hd : a.eval d = .int .i64 x) (hs : a.eval s = .int .i64 y) (hz : (if y < x then y else x) = z) (h : K (a.put o.dst (.int .i64 z)) w) :
    if Region.wanted o (yielded ops a.tmps) = true then Oper.wp Try.prog o a w K Q else E := by
  rw [if_pos (by simp [Region.wanted, hgd])]
  exact wp_min d s ho x y z hd hs hz h
end
theorem cells_seg {F S : Nat → Int} {x : Int} (h : ∀ k, 1 ≤ k → k ≤ 7 → F k = S k) (h0 : x = S 0) :
    [Value.int .u8 x, .int .u8 (F 1), .int .u8 (F 2), .int .u8 (F 3), .int .u8 (F 4), .int .u8 (F 5), .int .u8 (F 6), .int .u8 (F 7)] = cellsOf [S] := by
  rw [h0, h 1 (by omega) (by omega), h 2 (by omega) (by omega), h 3 (by omega) (by omega), h 4 (by omega) (by omega), h 5 (by omega) (by omega), h 6 (by omega) (by omega), h 7 (by omega) (by omega)]
  rfl
theorem IsSnd.many {w : World} {g : Nat} {s : Snd} (h : IsSnd w g s) (m : Nat) : IsSnd (w.setCell ⟨g, 2, none⟩ (.int .i64 m)) g { s with many := m } :=
  ⟨(h.blk.set 2 (.int .i64 m)).cast (by simp [Snd.cells]), h.inb.keep ((Keep.refl (One g) w).set1 2 _) (fun a ha e => h.far a ha e), h.far, h.big, h.atb⟩
theorem len30 : Try.prog.arrayLen 30 = 8 := by kernel_rfl
theorem under30 : Try.prog.underlying 30 = some (.array 8 (Try.prog.elem 30)) := by kernel_rfl
theorem size30 : Try.prog.elem 30 = 5 := by kernel_rfl
theorem info30 : (Try.prog.info? 30).map (fun i => (i.zero, i.size, i.bytes)) = some (some (.agg #[.int .u8 0, .int .u8 0, .int .u8 0, .int .u8 0, .int .u8 0, .int .u8 0, .int .u8 0, .int .u8 0]), 8, 8) := by kernel_rfl
/-- f[1:] of a frame. -/
theorem slice30 (q : Nat) (w : World) : Sem.run Try.prog (Instr.sliceAt 30 (.pointer (some ⟨q, 0, none⟩)) (some (.int .i64 1)) none none) w = .ok (.slice (some ⟨q, 1, none⟩) 7 7) w := by
  rw [run_sliceAt_array_l w 30 _ under30 .i64 1 (by omega) (by rw [len30]; omega)]
  rw [len30]
  rfl
/-- b[lo:hi] of bytes. -/
theorem slice22 (A : Option Addr) (L c lo hi : Nat) (h1 : lo ≤ hi) (h2 : hi ≤ L) (h3 : L ≤ c) (l h : Int) (hl : l = lo) (hh : h = hi) :
    ∃ A2, (∀ w, Sem.run Try.prog (Instr.slice 22 (.slice A L c) (some (.int .i64 l)) (some (.int .i64 h)) none) w = .ok (.slice A2 (hi - lo) (c - lo)) w) ∧ (∀ w (xs : List Int), xs.length = L → Row w A (ints .u8 xs) → Row w A2 (ints .u8 ((xs.drop lo).take (hi - lo)))) ∧ (∀ a, A2 = some a → ∃ b, A = some b ∧ a.block = b.block) := by
  subst hl hh
  have hu : Try.prog.underlying 22 = some (.slice (Try.prog.elem 22)) := by kernel_rfl
  refine ⟨if c = lo then A else A.map (·.add lo), fun w => ?_, fun w xs hx hr => ?_, fun a ha => ?_⟩
  · rw [run_slice_lh w 22 A L c hu .i64 .i64 lo hi (by omega) (by omega) (by omega)]
    simp [sliced, go_sem]
  · intro i v hv
    rw [ints_get, List.getElem?_take] at hv
    split at hv
    · rename_i hi2
      rw [List.getElem?_drop, ← ints_get] at hv
      obtain ⟨b, o, rfl, hb, hc⟩ := hr (lo + i) v hv
      have hne : ¬ c = lo := by omega
      refine ⟨b, o + lo, ?_, hb, by rw [Nat.add_assoc]; exact hc⟩
      rw [if_neg hne]
      show some (Addr.add _ _) = _
      unfold Addr.add
      split <;> simp_all
    · simp at hv
  · split at ha
    · exact ⟨a, ha, rfl⟩
    · rcases A with _ | b
      · cases ha
      · refine ⟨b, rfl, ?_⟩
        have : b.add lo = a := Option.some.inj ha
        rw [← this]
        unfold Addr.add
        split <;> rfl
theorem or128 (i : Nat) (hi : i ≤ 126) : bits .or .u8 ((i : Int) + 1) 128 = (i : Int) + 129 := by
  have h : ∀ i : Fin 127, bits .or .u8 ((i.val : Int) + 1) 128 = (i.val : Int) + 129 := by decide
  exact h ⟨i, by omega⟩
theorem laid_seg (bs : List Int) (N i : Nat) (k hi : Nat) (hk : hi = min (7 * N + 7) bs.length) (h0 : 7 * N ≤ bs.length) (j0 : 1 ≤ k) (j1 : k ≤ 7) (x : Int) :
    laid x ((bs.drop (7 * N)).take (hi - 7 * N)) k = segF bs N i k := by
  unfold laid segF
  rw [if_neg (by omega), if_neg (by omega), List.getD_eq_getElem?_getD, List.getD_eq_getElem?_getD, List.getElem?_take]
  split
  · rw [List.getElem?_drop]
  · rw [List.getElem?_eq_none (by omega)]
theorem frameC_eq {f g : Nat → Int} (h0 : f 0 = g 0) (h : ∀ k, 1 ≤ k → k ≤ 7 → f k = g k) : frameC f = frameC g := by
  unfold frameC
  rw [h0, h 1 (by omega) (by omega), h 2 (by omega) (by omega), h 3 (by omega) (by omega), h 4 (by omega) (by omega), h 5 (by omega) (by omega), h 6 (by omega) (by omega), h 7 (by omega) (by omega)]
set_option maxRecDepth 100000 in
set_option maxHeartbeats 8000000 in
theorem frames_any {w : World} {g : Nat} {s : Snd} (h : IsSnd w g s) (k : Nat) (k0 : 1 ≤ k) (k1 : k ≤ 127) (hat : s.at' < segs s.bs) (m : Nat) (hm : m = min k (segs s.bs - s.at')) :
    Calls Try.prog 24 #[.pointer (some ⟨g, 0, none⟩), .int .i64 k] w fun e w' => ∃ A c, e = .returned (.slice A m c) ∧ Hid (IsSnd w' g { s with many := m } ∧ FrAt w' w.heap.size A m c (framesF s.bs s.at' m) ∧ Keep (One g) w w') := by
  have H := Lib.hid h
  obtain ⟨n, hn⟩ : ∃ n, n = segs s.bs := ⟨_, rfl⟩
  have HN := Lib.hid hn
  have HM := Lib.hid hm
  have c1 : w.cell? ⟨g, 1, none⟩ = some (.int .i64 s.at') := h.blk.cell 1
  have c2 : w.cell? ⟨g, 2, none⟩ = some (.int .i64 s.many) := h.blk.cell 2
  have f2 := h.blk.frozen 2
  have hb := h.big
  have hnb : n ≤ 10000 := by rw [hn]; unfold segs; omega
  obtain ⟨j, hj⟩ : ∃ j, j = s.at' := ⟨_, rfl⟩
  have HJ := Lib.hid hj
  rw [← hj] at c1
  have hjn : j < n := by omega
  obtain ⟨old, hold⟩ : ∃ x, x = s.many := ⟨_, rfl⟩
  rw [← hold] at c2
  obtain ⟨M, hM⟩ : ∃ M, M = n - j := ⟨_, rfl⟩
  have hw : IntKind.i64.wrap ((n : Int) - j) = (M : Int) := by rw [IntWalk.i64_in _ (by omega)]; omega
  have hmM : m = min k M := by rw [hm, ← hn, ← hj, hM]
  have HMM := Lib.hid hM
  clear h hn hj hb hold hat hm hM
  go_enter Try.func24, Try.ntmps24
  go_wp2_with fail
  refine (segments_any H.out n HN.out).mono ?_
  rintro e w' ⟨rfl, rfl⟩
  by_cases hmin : M < k
  · obtain rfl : m = M := by omega
    have hmi : (m : Int) < (k : Int) := by omega
    clear hmin hmM
    go_wp2_with fail
    have hS1 := H.out.many m
    obtain ⟨w1, hw1⟩ : ∃ x, x = w.setCell ⟨g, 2, none⟩ (.int .i64 m) := ⟨_, rfl⟩
    rw [← hw1] at hS1
    rw [← hw1]
    have HS1 := Lib.hid hS1
    have HW1 : Hid (Keep (One g) w w1) := Lib.hid (by rw [hw1]; exact (Keep.refl (One g) w).set1 2 _)
    clear hS1 hw1
    go_loopg [6, 27] m (fun q s6 s27 wr => ∃ i : Nat, i ≤ m ∧ q = m - i ∧ s27 = .int .i64 i ∧ wr.ownsRow w1.heap.size 30 8 s6 i (cellsOf (framesF s.bs s.at' i)) ∧ Keep Own.Zero w1 wr)
    case atStart => exact ⟨0, by omega, rfl, rfl, own_nil _ _ _ _, Keep.refl _ _⟩
    case round =>
      obtain ⟨i, hi, hq, rfl, hown, hkp⟩ := hrel
      obtain ⟨A, c, rfl, _, _, _, _⟩ := Row.own hown
      have HMs := Lib.hid hq
      have HO := Lib.hid hown
      have HK := Lib.hid hkp
      have HSr : Hid (IsSnd wr g { s with many := m }) := Lib.hid (HS1.out.keep hkp id (fun _ _ => id))
      clear hq hown hkp
      by_cases hlt : i < m
      · have hlt2 : (i : Int) < (m : Int) := by omega
        obtain ⟨L, hL⟩ : ∃ L, L = s.bs.length := ⟨_, rfl⟩
        have HL := Lib.hid hL
        have hLb : L ≤ 65536 := by rw [hL]; exact H.out.big
        have h7L : 7 * (j + i) ≤ L := by
          have h1 := HN.out
          have h2 := HM.out
          rw [← h1, ← HJ.out] at h2
          unfold segs at h1
          rw [← hL] at h1
          omega
        have hjin : j + i < n := by
          have h1 := HN.out
          have h2 := HM.out
          rw [← h1, ← HJ.out] at h2
          omega
        have hjin2 : (j : Int) + (i : Int) < (n : Int) := by omega
        have HLc : Hid (L ≤ s.cap) := Lib.hid (by rw [hL]; exact H.out.inb.le)
        have gw : g < wr.heap.size := HSr.out.blk.lt
        obtain ⟨X0, hX0⟩ : ∃ X0, X0 = wr.alloc (.cells (frame0 ((i : Int) + 1)) 30) := ⟨_, rfl⟩
        have HC0 : Hid (X0.cell? ⟨g, 0, none⟩ = some (.slice s.A L s.cap)) := Lib.hid (by rw [hX0, hL]; exact (HSr.out.blk.alloc _).cell 0)
        have HBX0 : Hid (Blk X0 wr.heap.size (frame0 ((i : Int) + 1)) 30) := Lib.hid (by rw [hX0]; exact Blk.new wr _ _)
        have hX0s : wr.heap.size < X0.heap.size := HBX0.out.lt
        have HRX : Hid (Row X0 s.A (ints .u8 s.bs)) := Lib.hid (by rw [hX0]; exact HSr.out.inb.row.keep ((Keep.refl Own.Zero wr).alloc _) (fun _ _ _ => id))
        have HX0 := Lib.hid hX0
        have c0r : ∀ o, (wr.alloc o).cell? ⟨g, 0, none⟩ = some (.slice s.A L s.cap) := fun o => by
          rw [hL]
          exact (HSr.out.blk.alloc o).cell 0
        have c1r : ∀ o, (wr.alloc o).cell? ⟨g, 1, none⟩ = some (.int .i64 j) := fun o => by
          rw [HJ.out]
          exact (HSr.out.blk.alloc o).cell 1
        have h8 : ((i : Int) + 1) % 256 = (i : Int) + 1 := by omega
        have hsl := slice30 wr.heap.size
        have hwa : IntKind.i64.wrap (7 * ((j : Int) + (i : Int))) = 7 * ((j : Int) + (i : Int)) := IntWalk.i64_in _ (by omega)
        have hwb : IntKind.i64.wrap ((j : Int) + (i : Int) + 1) = (j : Int) + (i : Int) + 1 := IntWalk.i64_in _ (by omega)
        have hwc : IntKind.i64.wrap (7 * ((j : Int) + (i : Int) + 1)) = 7 * ((j : Int) + (i : Int) + 1) := IntWalk.i64_in _ (by omega)
        have hn1 : ¬ (L : Int) < 7 * ((j : Int) + (i : Int)) := by omega
        clear hL
        obtain ⟨hi, hhi⟩ : ∃ hi, hi = min (7 * (j + i) + 7) L := ⟨_, rfl⟩
        have HHi := Lib.hid hhi
        have hhi2 : hi = min (7 * (j + i + 1)) L := by omega
        clear hhi hn1
        go_wp2_with fail
        have hX1 := HX0.out
        unfold frame0 at hX1
        rw [← hX1]
        clear hX1
        obtain ⟨A2, hs2, hr2, ha2⟩ := slice22 s.A L s.cap (7 * (j + i)) hi (by omega) (by omega) HLc.out (7 * ((j : Int) + (i : Int))) (hi : Int) (by omega) (by omega)
        obtain ⟨d, hd⟩ : ∃ d, d = hi - 7 * (j + i) := ⟨_, rfl⟩
        obtain ⟨cc, hcc⟩ : ∃ cc, cc = s.cap - 7 * (j + i) := ⟨_, rfl⟩
        obtain ⟨ys, hys⟩ : ∃ ys, ys = (s.bs.drop (7 * (j + i))).take (hi - 7 * (j + i)) := ⟨_, rfl⟩
        have HYs := Lib.hid hys
        have HR2 : Hid (Row X0 A2 (ints .u8 ys)) := Lib.hid (by rw [hys]; exact hr2 X0 s.bs HL.out.symm HRX.out)
        have HY2 : Hid (ys.length = d) := Lib.hid (by rw [hys, hd, List.length_take, List.length_drop, ← HL.out]; omega)
        have h7 : d ≤ 7 := by omega
        rw [← hd, ← hcc] at hs2
        clear hr2 ha2 hd hcc hys
        have HM1 : Hid ((if (L : Int) < 7 * ((j : Int) + (i : Int)) then (L : Int) else 7 * ((j : Int) + (i : Int))) = 7 * ((j : Int) + (i : Int))) := Lib.hid (by rw [if_neg (by omega)])
        have HM2 : Hid ((if (L : Int) < 7 * ((j : Int) + (i : Int) + 1) then (L : Int) else 7 * ((j : Int) + (i : Int) + 1)) = (hi : Int)) := Lib.hid (by split <;> omega)
        clear hhi2
        go_region_held_law (fun w' => w'.cell? ⟨g, 0, none⟩ = some (.slice s.A L s.cap)) (first | (go_keep; done) | exact HC0.out) (first | (refine step_min rfl (.tmp 49) (.tmp 54) rfl (7 * ((j : Int) + (i : Int))) (L : Int) (7 * ((j : Int) + (i : Int))) rfl rfl HM1.out ?_) | (refine step_min rfl (.tmp 58) (.tmp 63) rfl (7 * ((j : Int) + (i : Int) + 1)) (L : Int) (hi : Int) rfl rfl HM2.out ?_) | (refine step_copy rfl (.tmp 43) (.tmp 65) rfl wr.heap.size rfl A2 d cc rfl ((i : Int) + 1) HBX0.out ys HY2.out h7 HR2.out ?_; intro X hBX hKX; have HBX := Lib.hid hBX; have HKX := Lib.hid hKX; clear hBX hKX; have HC0 := Lib.hid ((HKX.out.cell (p := ⟨g, 0, none⟩) (show g < X0.heap.size by omega) (fun e => by have e' : g = wr.heap.size := e; omega)).trans HC0.out)))
        · obtain ⟨F, hF⟩ : ∃ F, F = laid ((i : Int) + 1) ys := ⟨_, rfl⟩
          have HF := Lib.hid hF
          have HBF : Hid (Blk X wr.heap.size (frameC F) 30) := Lib.hid (by rw [hF]; exact HBX.out)
          have y0 : X.cell? ⟨wr.heap.size, 0, none⟩ = some (.int .u8 ((i : Int) + 1)) := by
            have h := HBF.out.cell 0
            rw [hF] at h
            exact h
          have y1 : X.cell? ⟨wr.heap.size, 1, none⟩ = some (.int .u8 (F 1)) := HBF.out.cell 1
          have y2 : X.cell? ⟨wr.heap.size, 2, none⟩ = some (.int .u8 (F 2)) := HBF.out.cell 2
          have y3 : X.cell? ⟨wr.heap.size, 3, none⟩ = some (.int .u8 (F 3)) := HBF.out.cell 3
          have y4 : X.cell? ⟨wr.heap.size, 4, none⟩ = some (.int .u8 (F 4)) := HBF.out.cell 4
          have y5 : X.cell? ⟨wr.heap.size, 5, none⟩ = some (.int .u8 (F 5)) := HBF.out.cell 5
          have y6 : X.cell? ⟨wr.heap.size, 6, none⟩ = some (.int .u8 (F 6)) := HBF.out.cell 6
          have y7 : X.cell? ⟨wr.heap.size, 7, none⟩ = some (.int .u8 (F 7)) := HBF.out.cell 7
          have fz : X.frozen? ⟨wr.heap.size, 0, none⟩ = false := HBF.out.frozen 0
          have HKrX : Hid (Keep Own.Zero wr X) := Lib.hid (((Keep.refl Own.Zero wr).alloc (.cells (frame0 ((i : Int) + 1)) 30)).trans (S' := Own.One wr.heap.size) (by have h := HKX.out; rw [HX0.out] at h; exact ⟨h.os, h.tape, h.output, h.size, h.block⟩) (fun k hk => .inr (by have e' : k = wr.heap.size := hk; omega)))
          have HSg : Hid (∀ k, 1 ≤ k → k ≤ 7 → F k = segF s.bs (s.at' + i) i k) := Lib.hid (fun k k0 k1 => by
            rw [hF, HYs.out, ← HJ.out]
            exact laid_seg s.bs (j + i) i k hi (by rw [HHi.out, ← HL.out]) (by rw [← HL.out]; exact h7L) k0 k1 _)
          have hjm : j + i ≤ 20000 := by omega
          clear hF
          by_cases hlast : j + i + 1 = n
          · have hl2 : (j : Int) + (i : Int) = (n : Int) - 1 := by omega
            have hor := or128 i (by omega)
            have HNw : Hid ([.int .u8 ((i : Int) + 129), .int .u8 (F 1), .int .u8 (F 2), .int .u8 (F 3), .int .u8 (F 4), .int .u8 (F 5), .int .u8 (F 6), .int .u8 (F 7)] = cellsOf [segF s.bs (s.at' + i) i]) := Lib.hid (cells_seg HSg.out (by unfold segF; rw [if_pos rfl, if_pos (by rw [← HN.out, ← HJ.out]; exact hlast)]; omega))
            have HKrf : Hid (Keep Own.Zero wr (X.setCell ⟨wr.heap.size, 0, none⟩ (.int .u8 ((i : Int) + 129)))) := Lib.hid (HKrX.out.set (.inr (Nat.le_refl _)) _)
            have HKf := Lib.hid (HK.out.trans HKrf.out (fun k hk => hk.elim))
            have HOX := Lib.hid (fun o => own_keep HO.out (HKrf.out.alloc o) (fun _ hk => hk.elim))
            have HSz : Hid (w1.heap.size ≤ X.heap.size) := Lib.hid (Nat.le_trans HK.out.size HKrX.out.size)
            go_wp2_with (at_builtin; refine app_own rfl (.tmp 75) (.tmp 77) 23 rfl w1.heap.size 30 (.agg #[.int .u8 0, .int .u8 0, .int .u8 0, .int .u8 0, .int .u8 0, .int .u8 0, .int .u8 0, .int .u8 0]) 8 8 under23 info30 rfl (by decide) (.slice A i c) i (cellsOf (framesF s.bs s.at' i)) rfl (HOX.out _) (some ⟨X.heap.size, 0, none⟩) 1 1 [.int .u8 ((i : Int) + 129), .int .u8 (F 1), .int .u8 (F 2), .int .u8 (F 3), .int .u8 (F 4), .int .u8 (F 5), .int .u8 (F 6), .int .u8 (F 7)] rfl rfl (fun h => by cases h) (Row.blk (Blk.at_ (by simp)) (fun i v hv => by simpa using hv)) (by simp [Value.oneCell']) (by unfold maxLen; omega) (by omega) (by have := HSz.out; simp; omega) ?_; intro v3 w3 hown3 hgr3)
            rw [HNw.out, ← cellsOf_append, ← framesF_succ] at hown3
            have HO3 := Lib.hid hown3
            have HK3 : Hid (Keep Own.Zero w1 w3) := Lib.hid ((HKf.out.alloc _).grown hgr3 (fun k hk => .inr (own_block HO.out k hk)))
            clear hown3 hgr3
            go_wp2_with fail
            go_roundg (m - (i + 1))
            case measure => rw [HMs.out]; omega
            case rel => exact ⟨i + 1, hlt, rfl, by go_num, HO3.out, HK3.out⟩
          · have hl2 : ¬ (j : Int) + (i : Int) = (n : Int) - 1 := by omega
            have HNw : Hid ([.int .u8 ((i : Int) + 1), .int .u8 (F 1), .int .u8 (F 2), .int .u8 (F 3), .int .u8 (F 4), .int .u8 (F 5), .int .u8 (F 6), .int .u8 (F 7)] = cellsOf [segF s.bs (s.at' + i) i]) := Lib.hid (cells_seg HSg.out (by unfold segF; rw [if_pos rfl, if_neg (by rw [← HN.out, ← HJ.out]; exact hlast)]; omega))
            have HKrf : Hid (Keep Own.Zero wr X) := HKrX
            have HKf := Lib.hid (HK.out.trans HKrf.out (fun k hk => hk.elim))
            have HOX := Lib.hid (fun o => own_keep HO.out (HKrf.out.alloc o) (fun _ hk => hk.elim))
            have HSz : Hid (w1.heap.size ≤ X.heap.size) := Lib.hid (Nat.le_trans HK.out.size HKrX.out.size)
            go_wp2_with (at_builtin; refine app_own rfl (.tmp 75) (.tmp 77) 23 rfl w1.heap.size 30 (.agg #[.int .u8 0, .int .u8 0, .int .u8 0, .int .u8 0, .int .u8 0, .int .u8 0, .int .u8 0, .int .u8 0]) 8 8 under23 info30 rfl (by decide) (.slice A i c) i (cellsOf (framesF s.bs s.at' i)) rfl (HOX.out _) (some ⟨X.heap.size, 0, none⟩) 1 1 [.int .u8 ((i : Int) + 1), .int .u8 (F 1), .int .u8 (F 2), .int .u8 (F 3), .int .u8 (F 4), .int .u8 (F 5), .int .u8 (F 6), .int .u8 (F 7)] rfl rfl (fun h => by cases h) (Row.blk (Blk.at_ (by simp)) (fun i v hv => by simpa using hv)) (by simp [Value.oneCell']) (by unfold maxLen; omega) (by omega) (by have := HSz.out; simp; omega) ?_; intro v3 w3 hown3 hgr3)
            rw [HNw.out, ← cellsOf_append, ← framesF_succ] at hown3
            have HO3 := Lib.hid hown3
            have HK3 : Hid (Keep Own.Zero w1 w3) := Lib.hid ((HKf.out.alloc _).grown hgr3 (fun k hk => .inr (own_block HO.out k hk)))
            clear hown3 hgr3
            go_wp2_with fail
            go_roundg (m - (i + 1))
            case measure => rw [HMs.out]; omega
            case rel => exact ⟨i + 1, hlt, rfl, by go_num, HO3.out, HK3.out⟩
        · obtain ⟨F, hF⟩ : ∃ F, F = laid ((i : Int) + 1) ys := ⟨_, rfl⟩
          have HF := Lib.hid hF
          have HBF : Hid (Blk X wr.heap.size (frameC F) 30) := Lib.hid (by rw [hF]; exact HBX.out)
          have y0 : X.cell? ⟨wr.heap.size, 0, none⟩ = some (.int .u8 ((i : Int) + 1)) := by
            have h := HBF.out.cell 0
            rw [hF] at h
            exact h
          have y1 : X.cell? ⟨wr.heap.size, 1, none⟩ = some (.int .u8 (F 1)) := HBF.out.cell 1
          have y2 : X.cell? ⟨wr.heap.size, 2, none⟩ = some (.int .u8 (F 2)) := HBF.out.cell 2
          have y3 : X.cell? ⟨wr.heap.size, 3, none⟩ = some (.int .u8 (F 3)) := HBF.out.cell 3
          have y4 : X.cell? ⟨wr.heap.size, 4, none⟩ = some (.int .u8 (F 4)) := HBF.out.cell 4
          have y5 : X.cell? ⟨wr.heap.size, 5, none⟩ = some (.int .u8 (F 5)) := HBF.out.cell 5
          have y6 : X.cell? ⟨wr.heap.size, 6, none⟩ = some (.int .u8 (F 6)) := HBF.out.cell 6
          have y7 : X.cell? ⟨wr.heap.size, 7, none⟩ = some (.int .u8 (F 7)) := HBF.out.cell 7
          have fz : X.frozen? ⟨wr.heap.size, 0, none⟩ = false := HBF.out.frozen 0
          have HKrX : Hid (Keep Own.Zero wr X) := Lib.hid (((Keep.refl Own.Zero wr).alloc (.cells (frame0 ((i : Int) + 1)) 30)).trans (S' := Own.One wr.heap.size) (by have h := HKX.out; rw [HX0.out] at h; exact ⟨h.os, h.tape, h.output, h.size, h.block⟩) (fun k hk => .inr (by have e' : k = wr.heap.size := hk; omega)))
          have HSg : Hid (∀ k, 1 ≤ k → k ≤ 7 → F k = segF s.bs (s.at' + i) i k) := Lib.hid (fun k k0 k1 => by
            rw [hF, HYs.out, ← HJ.out]
            exact laid_seg s.bs (j + i) i k hi (by rw [HHi.out, ← HL.out]) (by rw [← HL.out]; exact h7L) k0 k1 _)
          have hjm : j + i ≤ 20000 := by omega
          clear hF
          by_cases hlast : j + i + 1 = n
          · have hl2 : (j : Int) + (i : Int) = (n : Int) - 1 := by omega
            have hor := or128 i (by omega)
            have HNw : Hid ([.int .u8 ((i : Int) + 129), .int .u8 (F 1), .int .u8 (F 2), .int .u8 (F 3), .int .u8 (F 4), .int .u8 (F 5), .int .u8 (F 6), .int .u8 (F 7)] = cellsOf [segF s.bs (s.at' + i) i]) := Lib.hid (cells_seg HSg.out (by unfold segF; rw [if_pos rfl, if_pos (by rw [← HN.out, ← HJ.out]; exact hlast)]; omega))
            have HKrf : Hid (Keep Own.Zero wr (X.setCell ⟨wr.heap.size, 0, none⟩ (.int .u8 ((i : Int) + 129)))) := Lib.hid (HKrX.out.set (.inr (Nat.le_refl _)) _)
            have HKf := Lib.hid (HK.out.trans HKrf.out (fun k hk => hk.elim))
            have HOX := Lib.hid (fun o => own_keep HO.out (HKrf.out.alloc o) (fun _ hk => hk.elim))
            have HSz : Hid (w1.heap.size ≤ X.heap.size) := Lib.hid (Nat.le_trans HK.out.size HKrX.out.size)
            go_wp2_with (at_builtin; refine app_own rfl (.tmp 75) (.tmp 77) 23 rfl w1.heap.size 30 (.agg #[.int .u8 0, .int .u8 0, .int .u8 0, .int .u8 0, .int .u8 0, .int .u8 0, .int .u8 0, .int .u8 0]) 8 8 under23 info30 rfl (by decide) (.slice A i c) i (cellsOf (framesF s.bs s.at' i)) rfl (HOX.out _) (some ⟨X.heap.size, 0, none⟩) 1 1 [.int .u8 ((i : Int) + 129), .int .u8 (F 1), .int .u8 (F 2), .int .u8 (F 3), .int .u8 (F 4), .int .u8 (F 5), .int .u8 (F 6), .int .u8 (F 7)] rfl rfl (fun h => by cases h) (Row.blk (Blk.at_ (by simp)) (fun i v hv => by simpa using hv)) (by simp [Value.oneCell']) (by unfold maxLen; omega) (by omega) (by have := HSz.out; simp; omega) ?_; intro v3 w3 hown3 hgr3)
            rw [HNw.out, ← cellsOf_append, ← framesF_succ] at hown3
            have HO3 := Lib.hid hown3
            have HK3 : Hid (Keep Own.Zero w1 w3) := Lib.hid ((HKf.out.alloc _).grown hgr3 (fun k hk => .inr (own_block HO.out k hk)))
            clear hown3 hgr3
            go_wp2_with fail
            go_roundg (m - (i + 1))
            case measure => rw [HMs.out]; omega
            case rel => exact ⟨i + 1, hlt, rfl, by go_num, HO3.out, HK3.out⟩
          · have hl2 : ¬ (j : Int) + (i : Int) = (n : Int) - 1 := by omega
            have HNw : Hid ([.int .u8 ((i : Int) + 1), .int .u8 (F 1), .int .u8 (F 2), .int .u8 (F 3), .int .u8 (F 4), .int .u8 (F 5), .int .u8 (F 6), .int .u8 (F 7)] = cellsOf [segF s.bs (s.at' + i) i]) := Lib.hid (cells_seg HSg.out (by unfold segF; rw [if_pos rfl, if_neg (by rw [← HN.out, ← HJ.out]; exact hlast)]; omega))
            have HKrf : Hid (Keep Own.Zero wr X) := HKrX
            have HKf := Lib.hid (HK.out.trans HKrf.out (fun k hk => hk.elim))
            have HOX := Lib.hid (fun o => own_keep HO.out (HKrf.out.alloc o) (fun _ hk => hk.elim))
            have HSz : Hid (w1.heap.size ≤ X.heap.size) := Lib.hid (Nat.le_trans HK.out.size HKrX.out.size)
            go_wp2_with (at_builtin; refine app_own rfl (.tmp 75) (.tmp 77) 23 rfl w1.heap.size 30 (.agg #[.int .u8 0, .int .u8 0, .int .u8 0, .int .u8 0, .int .u8 0, .int .u8 0, .int .u8 0, .int .u8 0]) 8 8 under23 info30 rfl (by decide) (.slice A i c) i (cellsOf (framesF s.bs s.at' i)) rfl (HOX.out _) (some ⟨X.heap.size, 0, none⟩) 1 1 [.int .u8 ((i : Int) + 1), .int .u8 (F 1), .int .u8 (F 2), .int .u8 (F 3), .int .u8 (F 4), .int .u8 (F 5), .int .u8 (F 6), .int .u8 (F 7)] rfl rfl (fun h => by cases h) (Row.blk (Blk.at_ (by simp)) (fun i v hv => by simpa using hv)) (by simp [Value.oneCell']) (by unfold maxLen; omega) (by omega) (by have := HSz.out; simp; omega) ?_; intro v3 w3 hown3 hgr3)
            rw [HNw.out, ← cellsOf_append, ← framesF_succ] at hown3
            have HO3 := Lib.hid hown3
            have HK3 : Hid (Keep Own.Zero w1 w3) := Lib.hid ((HKf.out.alloc _).grown hgr3 (fun k hk => .inr (own_block HO.out k hk)))
            clear hown3 hgr3
            go_wp2_with fail
            go_roundg (m - (i + 1))
            case measure => rw [HMs.out]; omega
            case rel => exact ⟨i + 1, hlt, rfl, by go_num, HO3.out, HK3.out⟩
      · obtain rfl : i = m := by omega
        have hnl : ¬ (i : Int) < (i : Int) := by omega
        go_wp2_with fail
        go_ret
        exact ⟨A, c, rfl, Lib.hid ⟨HSr.out, own_mono HO.out HW1.out.size, HW1.out.trans HK.out (fun k hk => hk.elim)⟩⟩
  · obtain rfl : m = k := by omega
    have hmi : decide ((M : Int) < (m : Int)) = false := by simp; omega
    clear hmM
    go_wp2_with fail
    have hS1 := H.out.many m
    obtain ⟨w1, hw1⟩ : ∃ x, x = w.setCell ⟨g, 2, none⟩ (.int .i64 m) := ⟨_, rfl⟩
    rw [← hw1] at hS1
    rw [← hw1]
    have HS1 := Lib.hid hS1
    have HW1 : Hid (Keep (One g) w w1) := Lib.hid (by rw [hw1]; exact (Keep.refl (One g) w).set1 2 _)
    clear hS1 hw1
    go_loopg [6, 27] m (fun q s6 s27 wr => ∃ i : Nat, i ≤ m ∧ q = m - i ∧ s27 = .int .i64 i ∧ wr.ownsRow w1.heap.size 30 8 s6 i (cellsOf (framesF s.bs s.at' i)) ∧ Keep Own.Zero w1 wr)
    case atStart => exact ⟨0, by omega, rfl, rfl, own_nil _ _ _ _, Keep.refl _ _⟩
    case round =>
      obtain ⟨i, hi, hq, rfl, hown, hkp⟩ := hrel
      obtain ⟨A, c, rfl, _, _, _, _⟩ := Row.own hown
      have HMs := Lib.hid hq
      have HO := Lib.hid hown
      have HK := Lib.hid hkp
      have HSr : Hid (IsSnd wr g { s with many := m }) := Lib.hid (HS1.out.keep hkp id (fun _ _ => id))
      clear hq hown hkp
      by_cases hlt : i < m
      · have hlt2 : (i : Int) < (m : Int) := by omega
        obtain ⟨L, hL⟩ : ∃ L, L = s.bs.length := ⟨_, rfl⟩
        have HL := Lib.hid hL
        have hLb : L ≤ 65536 := by rw [hL]; exact H.out.big
        have h7L : 7 * (j + i) ≤ L := by
          have h1 := HN.out
          have h2 := HM.out
          rw [← h1, ← HJ.out] at h2
          unfold segs at h1
          rw [← hL] at h1
          omega
        have hjin : j + i < n := by
          have h1 := HN.out
          have h2 := HM.out
          rw [← h1, ← HJ.out] at h2
          omega
        have hjin2 : (j : Int) + (i : Int) < (n : Int) := by omega
        have HLc : Hid (L ≤ s.cap) := Lib.hid (by rw [hL]; exact H.out.inb.le)
        have gw : g < wr.heap.size := HSr.out.blk.lt
        obtain ⟨X0, hX0⟩ : ∃ X0, X0 = wr.alloc (.cells (frame0 ((i : Int) + 1)) 30) := ⟨_, rfl⟩
        have HC0 : Hid (X0.cell? ⟨g, 0, none⟩ = some (.slice s.A L s.cap)) := Lib.hid (by rw [hX0, hL]; exact (HSr.out.blk.alloc _).cell 0)
        have HBX0 : Hid (Blk X0 wr.heap.size (frame0 ((i : Int) + 1)) 30) := Lib.hid (by rw [hX0]; exact Blk.new wr _ _)
        have hX0s : wr.heap.size < X0.heap.size := HBX0.out.lt
        have HRX : Hid (Row X0 s.A (ints .u8 s.bs)) := Lib.hid (by rw [hX0]; exact HSr.out.inb.row.keep ((Keep.refl Own.Zero wr).alloc _) (fun _ _ _ => id))
        have HX0 := Lib.hid hX0
        have c0r : ∀ o, (wr.alloc o).cell? ⟨g, 0, none⟩ = some (.slice s.A L s.cap) := fun o => by
          rw [hL]
          exact (HSr.out.blk.alloc o).cell 0
        have c1r : ∀ o, (wr.alloc o).cell? ⟨g, 1, none⟩ = some (.int .i64 j) := fun o => by
          rw [HJ.out]
          exact (HSr.out.blk.alloc o).cell 1
        have h8 : ((i : Int) + 1) % 256 = (i : Int) + 1 := by omega
        have hsl := slice30 wr.heap.size
        have hwa : IntKind.i64.wrap (7 * ((j : Int) + (i : Int))) = 7 * ((j : Int) + (i : Int)) := IntWalk.i64_in _ (by omega)
        have hwb : IntKind.i64.wrap ((j : Int) + (i : Int) + 1) = (j : Int) + (i : Int) + 1 := IntWalk.i64_in _ (by omega)
        have hwc : IntKind.i64.wrap (7 * ((j : Int) + (i : Int) + 1)) = 7 * ((j : Int) + (i : Int) + 1) := IntWalk.i64_in _ (by omega)
        have hn1 : ¬ (L : Int) < 7 * ((j : Int) + (i : Int)) := by omega
        clear hL
        obtain ⟨hi, hhi⟩ : ∃ hi, hi = min (7 * (j + i) + 7) L := ⟨_, rfl⟩
        have HHi := Lib.hid hhi
        have hhi2 : hi = min (7 * (j + i + 1)) L := by omega
        clear hhi hn1
        go_wp2_with fail
        have hX1 := HX0.out
        unfold frame0 at hX1
        rw [← hX1]
        clear hX1
        obtain ⟨A2, hs2, hr2, ha2⟩ := slice22 s.A L s.cap (7 * (j + i)) hi (by omega) (by omega) HLc.out (7 * ((j : Int) + (i : Int))) (hi : Int) (by omega) (by omega)
        obtain ⟨d, hd⟩ : ∃ d, d = hi - 7 * (j + i) := ⟨_, rfl⟩
        obtain ⟨cc, hcc⟩ : ∃ cc, cc = s.cap - 7 * (j + i) := ⟨_, rfl⟩
        obtain ⟨ys, hys⟩ : ∃ ys, ys = (s.bs.drop (7 * (j + i))).take (hi - 7 * (j + i)) := ⟨_, rfl⟩
        have HYs := Lib.hid hys
        have HR2 : Hid (Row X0 A2 (ints .u8 ys)) := Lib.hid (by rw [hys]; exact hr2 X0 s.bs HL.out.symm HRX.out)
        have HY2 : Hid (ys.length = d) := Lib.hid (by rw [hys, hd, List.length_take, List.length_drop, ← HL.out]; omega)
        have h7 : d ≤ 7 := by omega
        rw [← hd, ← hcc] at hs2
        clear hr2 ha2 hd hcc hys
        have HM1 : Hid ((if (L : Int) < 7 * ((j : Int) + (i : Int)) then (L : Int) else 7 * ((j : Int) + (i : Int))) = 7 * ((j : Int) + (i : Int))) := Lib.hid (by rw [if_neg (by omega)])
        have HM2 : Hid ((if (L : Int) < 7 * ((j : Int) + (i : Int) + 1) then (L : Int) else 7 * ((j : Int) + (i : Int) + 1)) = (hi : Int)) := Lib.hid (by split <;> omega)
        clear hhi2
        go_region_held_law (fun w' => w'.cell? ⟨g, 0, none⟩ = some (.slice s.A L s.cap)) (first | (go_keep; done) | exact HC0.out) (first | (refine step_min rfl (.tmp 49) (.tmp 54) rfl (7 * ((j : Int) + (i : Int))) (L : Int) (7 * ((j : Int) + (i : Int))) rfl rfl HM1.out ?_) | (refine step_min rfl (.tmp 58) (.tmp 63) rfl (7 * ((j : Int) + (i : Int) + 1)) (L : Int) (hi : Int) rfl rfl HM2.out ?_) | (refine step_copy rfl (.tmp 43) (.tmp 65) rfl wr.heap.size rfl A2 d cc rfl ((i : Int) + 1) HBX0.out ys HY2.out h7 HR2.out ?_; intro X hBX hKX; have HBX := Lib.hid hBX; have HKX := Lib.hid hKX; clear hBX hKX; have HC0 := Lib.hid ((HKX.out.cell (p := ⟨g, 0, none⟩) (show g < X0.heap.size by omega) (fun e => by have e' : g = wr.heap.size := e; omega)).trans HC0.out)))
        · obtain ⟨F, hF⟩ : ∃ F, F = laid ((i : Int) + 1) ys := ⟨_, rfl⟩
          have HF := Lib.hid hF
          have HBF : Hid (Blk X wr.heap.size (frameC F) 30) := Lib.hid (by rw [hF]; exact HBX.out)
          have y0 : X.cell? ⟨wr.heap.size, 0, none⟩ = some (.int .u8 ((i : Int) + 1)) := by
            have h := HBF.out.cell 0
            rw [hF] at h
            exact h
          have y1 : X.cell? ⟨wr.heap.size, 1, none⟩ = some (.int .u8 (F 1)) := HBF.out.cell 1
          have y2 : X.cell? ⟨wr.heap.size, 2, none⟩ = some (.int .u8 (F 2)) := HBF.out.cell 2
          have y3 : X.cell? ⟨wr.heap.size, 3, none⟩ = some (.int .u8 (F 3)) := HBF.out.cell 3
          have y4 : X.cell? ⟨wr.heap.size, 4, none⟩ = some (.int .u8 (F 4)) := HBF.out.cell 4
          have y5 : X.cell? ⟨wr.heap.size, 5, none⟩ = some (.int .u8 (F 5)) := HBF.out.cell 5
          have y6 : X.cell? ⟨wr.heap.size, 6, none⟩ = some (.int .u8 (F 6)) := HBF.out.cell 6
          have y7 : X.cell? ⟨wr.heap.size, 7, none⟩ = some (.int .u8 (F 7)) := HBF.out.cell 7
          have fz : X.frozen? ⟨wr.heap.size, 0, none⟩ = false := HBF.out.frozen 0
          have HKrX : Hid (Keep Own.Zero wr X) := Lib.hid (((Keep.refl Own.Zero wr).alloc (.cells (frame0 ((i : Int) + 1)) 30)).trans (S' := Own.One wr.heap.size) (by have h := HKX.out; rw [HX0.out] at h; exact ⟨h.os, h.tape, h.output, h.size, h.block⟩) (fun k hk => .inr (by have e' : k = wr.heap.size := hk; omega)))
          have HSg : Hid (∀ k, 1 ≤ k → k ≤ 7 → F k = segF s.bs (s.at' + i) i k) := Lib.hid (fun k k0 k1 => by
            rw [hF, HYs.out, ← HJ.out]
            exact laid_seg s.bs (j + i) i k hi (by rw [HHi.out, ← HL.out]) (by rw [← HL.out]; exact h7L) k0 k1 _)
          have hjm : j + i ≤ 20000 := by omega
          clear hF
          by_cases hlast : j + i + 1 = n
          · have hl2 : (j : Int) + (i : Int) = (n : Int) - 1 := by omega
            have hor := or128 i (by omega)
            have HNw : Hid ([.int .u8 ((i : Int) + 129), .int .u8 (F 1), .int .u8 (F 2), .int .u8 (F 3), .int .u8 (F 4), .int .u8 (F 5), .int .u8 (F 6), .int .u8 (F 7)] = cellsOf [segF s.bs (s.at' + i) i]) := Lib.hid (cells_seg HSg.out (by unfold segF; rw [if_pos rfl, if_pos (by rw [← HN.out, ← HJ.out]; exact hlast)]; omega))
            have HKrf : Hid (Keep Own.Zero wr (X.setCell ⟨wr.heap.size, 0, none⟩ (.int .u8 ((i : Int) + 129)))) := Lib.hid (HKrX.out.set (.inr (Nat.le_refl _)) _)
            have HKf := Lib.hid (HK.out.trans HKrf.out (fun k hk => hk.elim))
            have HOX := Lib.hid (fun o => own_keep HO.out (HKrf.out.alloc o) (fun _ hk => hk.elim))
            have HSz : Hid (w1.heap.size ≤ X.heap.size) := Lib.hid (Nat.le_trans HK.out.size HKrX.out.size)
            go_wp2_with (at_builtin; refine app_own rfl (.tmp 75) (.tmp 77) 23 rfl w1.heap.size 30 (.agg #[.int .u8 0, .int .u8 0, .int .u8 0, .int .u8 0, .int .u8 0, .int .u8 0, .int .u8 0, .int .u8 0]) 8 8 under23 info30 rfl (by decide) (.slice A i c) i (cellsOf (framesF s.bs s.at' i)) rfl (HOX.out _) (some ⟨X.heap.size, 0, none⟩) 1 1 [.int .u8 ((i : Int) + 129), .int .u8 (F 1), .int .u8 (F 2), .int .u8 (F 3), .int .u8 (F 4), .int .u8 (F 5), .int .u8 (F 6), .int .u8 (F 7)] rfl rfl (fun h => by cases h) (Row.blk (Blk.at_ (by simp)) (fun i v hv => by simpa using hv)) (by simp [Value.oneCell']) (by unfold maxLen; omega) (by omega) (by have := HSz.out; simp; omega) ?_; intro v3 w3 hown3 hgr3)
            rw [HNw.out, ← cellsOf_append, ← framesF_succ] at hown3
            have HO3 := Lib.hid hown3
            have HK3 : Hid (Keep Own.Zero w1 w3) := Lib.hid ((HKf.out.alloc _).grown hgr3 (fun k hk => .inr (own_block HO.out k hk)))
            clear hown3 hgr3
            go_wp2_with fail
            go_roundg (m - (i + 1))
            case measure => rw [HMs.out]; omega
            case rel => exact ⟨i + 1, hlt, rfl, by go_num, HO3.out, HK3.out⟩
          · have hl2 : ¬ (j : Int) + (i : Int) = (n : Int) - 1 := by omega
            have HNw : Hid ([.int .u8 ((i : Int) + 1), .int .u8 (F 1), .int .u8 (F 2), .int .u8 (F 3), .int .u8 (F 4), .int .u8 (F 5), .int .u8 (F 6), .int .u8 (F 7)] = cellsOf [segF s.bs (s.at' + i) i]) := Lib.hid (cells_seg HSg.out (by unfold segF; rw [if_pos rfl, if_neg (by rw [← HN.out, ← HJ.out]; exact hlast)]; omega))
            have HKrf : Hid (Keep Own.Zero wr X) := HKrX
            have HKf := Lib.hid (HK.out.trans HKrf.out (fun k hk => hk.elim))
            have HOX := Lib.hid (fun o => own_keep HO.out (HKrf.out.alloc o) (fun _ hk => hk.elim))
            have HSz : Hid (w1.heap.size ≤ X.heap.size) := Lib.hid (Nat.le_trans HK.out.size HKrX.out.size)
            go_wp2_with (at_builtin; refine app_own rfl (.tmp 75) (.tmp 77) 23 rfl w1.heap.size 30 (.agg #[.int .u8 0, .int .u8 0, .int .u8 0, .int .u8 0, .int .u8 0, .int .u8 0, .int .u8 0, .int .u8 0]) 8 8 under23 info30 rfl (by decide) (.slice A i c) i (cellsOf (framesF s.bs s.at' i)) rfl (HOX.out _) (some ⟨X.heap.size, 0, none⟩) 1 1 [.int .u8 ((i : Int) + 1), .int .u8 (F 1), .int .u8 (F 2), .int .u8 (F 3), .int .u8 (F 4), .int .u8 (F 5), .int .u8 (F 6), .int .u8 (F 7)] rfl rfl (fun h => by cases h) (Row.blk (Blk.at_ (by simp)) (fun i v hv => by simpa using hv)) (by simp [Value.oneCell']) (by unfold maxLen; omega) (by omega) (by have := HSz.out; simp; omega) ?_; intro v3 w3 hown3 hgr3)
            rw [HNw.out, ← cellsOf_append, ← framesF_succ] at hown3
            have HO3 := Lib.hid hown3
            have HK3 : Hid (Keep Own.Zero w1 w3) := Lib.hid ((HKf.out.alloc _).grown hgr3 (fun k hk => .inr (own_block HO.out k hk)))
            clear hown3 hgr3
            go_wp2_with fail
            go_roundg (m - (i + 1))
            case measure => rw [HMs.out]; omega
            case rel => exact ⟨i + 1, hlt, rfl, by go_num, HO3.out, HK3.out⟩
        · obtain ⟨F, hF⟩ : ∃ F, F = laid ((i : Int) + 1) ys := ⟨_, rfl⟩
          have HF := Lib.hid hF
          have HBF : Hid (Blk X wr.heap.size (frameC F) 30) := Lib.hid (by rw [hF]; exact HBX.out)
          have y0 : X.cell? ⟨wr.heap.size, 0, none⟩ = some (.int .u8 ((i : Int) + 1)) := by
            have h := HBF.out.cell 0
            rw [hF] at h
            exact h
          have y1 : X.cell? ⟨wr.heap.size, 1, none⟩ = some (.int .u8 (F 1)) := HBF.out.cell 1
          have y2 : X.cell? ⟨wr.heap.size, 2, none⟩ = some (.int .u8 (F 2)) := HBF.out.cell 2
          have y3 : X.cell? ⟨wr.heap.size, 3, none⟩ = some (.int .u8 (F 3)) := HBF.out.cell 3
          have y4 : X.cell? ⟨wr.heap.size, 4, none⟩ = some (.int .u8 (F 4)) := HBF.out.cell 4
          have y5 : X.cell? ⟨wr.heap.size, 5, none⟩ = some (.int .u8 (F 5)) := HBF.out.cell 5
          have y6 : X.cell? ⟨wr.heap.size, 6, none⟩ = some (.int .u8 (F 6)) := HBF.out.cell 6
          have y7 : X.cell? ⟨wr.heap.size, 7, none⟩ = some (.int .u8 (F 7)) := HBF.out.cell 7
          have fz : X.frozen? ⟨wr.heap.size, 0, none⟩ = false := HBF.out.frozen 0
          have HKrX : Hid (Keep Own.Zero wr X) := Lib.hid (((Keep.refl Own.Zero wr).alloc (.cells (frame0 ((i : Int) + 1)) 30)).trans (S' := Own.One wr.heap.size) (by have h := HKX.out; rw [HX0.out] at h; exact ⟨h.os, h.tape, h.output, h.size, h.block⟩) (fun k hk => .inr (by have e' : k = wr.heap.size := hk; omega)))
          have HSg : Hid (∀ k, 1 ≤ k → k ≤ 7 → F k = segF s.bs (s.at' + i) i k) := Lib.hid (fun k k0 k1 => by
            rw [hF, HYs.out, ← HJ.out]
            exact laid_seg s.bs (j + i) i k hi (by rw [HHi.out, ← HL.out]) (by rw [← HL.out]; exact h7L) k0 k1 _)
          have hjm : j + i ≤ 20000 := by omega
          clear hF
          by_cases hlast : j + i + 1 = n
          · have hl2 : (j : Int) + (i : Int) = (n : Int) - 1 := by omega
            have hor := or128 i (by omega)
            have HNw : Hid ([.int .u8 ((i : Int) + 129), .int .u8 (F 1), .int .u8 (F 2), .int .u8 (F 3), .int .u8 (F 4), .int .u8 (F 5), .int .u8 (F 6), .int .u8 (F 7)] = cellsOf [segF s.bs (s.at' + i) i]) := Lib.hid (cells_seg HSg.out (by unfold segF; rw [if_pos rfl, if_pos (by rw [← HN.out, ← HJ.out]; exact hlast)]; omega))
            have HKrf : Hid (Keep Own.Zero wr (X.setCell ⟨wr.heap.size, 0, none⟩ (.int .u8 ((i : Int) + 129)))) := Lib.hid (HKrX.out.set (.inr (Nat.le_refl _)) _)
            have HKf := Lib.hid (HK.out.trans HKrf.out (fun k hk => hk.elim))
            have HOX := Lib.hid (fun o => own_keep HO.out (HKrf.out.alloc o) (fun _ hk => hk.elim))
            have HSz : Hid (w1.heap.size ≤ X.heap.size) := Lib.hid (Nat.le_trans HK.out.size HKrX.out.size)
            go_wp2_with (at_builtin; refine app_own rfl (.tmp 75) (.tmp 77) 23 rfl w1.heap.size 30 (.agg #[.int .u8 0, .int .u8 0, .int .u8 0, .int .u8 0, .int .u8 0, .int .u8 0, .int .u8 0, .int .u8 0]) 8 8 under23 info30 rfl (by decide) (.slice A i c) i (cellsOf (framesF s.bs s.at' i)) rfl (HOX.out _) (some ⟨X.heap.size, 0, none⟩) 1 1 [.int .u8 ((i : Int) + 129), .int .u8 (F 1), .int .u8 (F 2), .int .u8 (F 3), .int .u8 (F 4), .int .u8 (F 5), .int .u8 (F 6), .int .u8 (F 7)] rfl rfl (fun h => by cases h) (Row.blk (Blk.at_ (by simp)) (fun i v hv => by simpa using hv)) (by simp [Value.oneCell']) (by unfold maxLen; omega) (by omega) (by have := HSz.out; simp; omega) ?_; intro v3 w3 hown3 hgr3)
            rw [HNw.out, ← cellsOf_append, ← framesF_succ] at hown3
            have HO3 := Lib.hid hown3
            have HK3 : Hid (Keep Own.Zero w1 w3) := Lib.hid ((HKf.out.alloc _).grown hgr3 (fun k hk => .inr (own_block HO.out k hk)))
            clear hown3 hgr3
            go_wp2_with fail
            go_roundg (m - (i + 1))
            case measure => rw [HMs.out]; omega
            case rel => exact ⟨i + 1, hlt, rfl, by go_num, HO3.out, HK3.out⟩
          · have hl2 : ¬ (j : Int) + (i : Int) = (n : Int) - 1 := by omega
            have HNw : Hid ([.int .u8 ((i : Int) + 1), .int .u8 (F 1), .int .u8 (F 2), .int .u8 (F 3), .int .u8 (F 4), .int .u8 (F 5), .int .u8 (F 6), .int .u8 (F 7)] = cellsOf [segF s.bs (s.at' + i) i]) := Lib.hid (cells_seg HSg.out (by unfold segF; rw [if_pos rfl, if_neg (by rw [← HN.out, ← HJ.out]; exact hlast)]; omega))
            have HKrf : Hid (Keep Own.Zero wr X) := HKrX
            have HKf := Lib.hid (HK.out.trans HKrf.out (fun k hk => hk.elim))
            have HOX := Lib.hid (fun o => own_keep HO.out (HKrf.out.alloc o) (fun _ hk => hk.elim))
            have HSz : Hid (w1.heap.size ≤ X.heap.size) := Lib.hid (Nat.le_trans HK.out.size HKrX.out.size)
            go_wp2_with (at_builtin; refine app_own rfl (.tmp 75) (.tmp 77) 23 rfl w1.heap.size 30 (.agg #[.int .u8 0, .int .u8 0, .int .u8 0, .int .u8 0, .int .u8 0, .int .u8 0, .int .u8 0, .int .u8 0]) 8 8 under23 info30 rfl (by decide) (.slice A i c) i (cellsOf (framesF s.bs s.at' i)) rfl (HOX.out _) (some ⟨X.heap.size, 0, none⟩) 1 1 [.int .u8 ((i : Int) + 1), .int .u8 (F 1), .int .u8 (F 2), .int .u8 (F 3), .int .u8 (F 4), .int .u8 (F 5), .int .u8 (F 6), .int .u8 (F 7)] rfl rfl (fun h => by cases h) (Row.blk (Blk.at_ (by simp)) (fun i v hv => by simpa using hv)) (by simp [Value.oneCell']) (by unfold maxLen; omega) (by omega) (by have := HSz.out; simp; omega) ?_; intro v3 w3 hown3 hgr3)
            rw [HNw.out, ← cellsOf_append, ← framesF_succ] at hown3
            have HO3 := Lib.hid hown3
            have HK3 : Hid (Keep Own.Zero w1 w3) := Lib.hid ((HKf.out.alloc _).grown hgr3 (fun k hk => .inr (own_block HO.out k hk)))
            clear hown3 hgr3
            go_wp2_with fail
            go_roundg (m - (i + 1))
            case measure => rw [HMs.out]; omega
            case rel => exact ⟨i + 1, hlt, rfl, by go_num, HO3.out, HK3.out⟩
      · obtain rfl : i = m := by omega
        have hnl : ¬ (i : Int) < (i : Int) := by omega
        go_wp2_with fail
        go_ret
        exact ⟨A, c, rfl, Lib.hid ⟨HSr.out, own_mono HO.out HW1.out.size, HW1.out.trans HK.out (fun k hk => hk.elim)⟩⟩
end Go.Proofs.Ytdmomhbimhggiaa.Block
