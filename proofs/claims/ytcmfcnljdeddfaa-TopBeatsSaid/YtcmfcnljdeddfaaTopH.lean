/- beat's watcher is made. -/
import Derived.Test.YtcmfcnljdeddfaaTopG
import Derived.Deep.Cut
import Derived.Deep.RegionLaw
namespace Go.Proofs.Ytcmfcnljdeddfaa.Beat
open Go.RowKit Go.Proofs.Ytcmfcnljdeddfaa.Own
theorem under79 : Try.prog.underlying 79 = some (.slice 82) := by kernel_rfl
theorem info82 : (Try.prog.info? 82).map (fun i => (i.zero, i.size, i.bytes)) = some (some (.pointer none), 1, 8) := by kernel_rfl
section
variable {P : Program} {w : World} {ops : Array Oper} {rest : List Oper} {o : Oper} {a : Act} {K : Act → World → Prop} {Q : Exit → Act → World → Prop}
theorem step_app_own {E : Prop} (hgd : o.guard = none) (s x : Operand) (t : TypeId)
    (ho : o.op = .call { callee := .builtin .append, args := #[s, x], argTypes := #[t, t] })
    (base : Nat) (e : TypeId) (z : Value) (size bytes : Nat) (ht : P.underlying t = some (.slice e)) (hi : (P.info? e).map (fun i => (i.zero, i.size, i.bytes)) = some (some z, size, bytes))
    (hzs : z.cells.size = size) (hsz : 0 < size)
    (v : Value) (n : Nat) (xs : List Value) (hs : a.eval s = v) (hown : w.ownsRow base e size v n xs)
    (A : Option Addr) (m c : Nat) (news : List Value) (hx : a.eval x = .slice A m c) (hl : news.length = m * size) (hnil : A = none → c = 0) (hnews : Row w A news) (h1 : ∀ u ∈ news, u.oneCell' = true)
    (h63 : n + m ≤ maxLen) (hbytes : (n + m) * bytes ≤ 140737488355328) (hbase : base ≤ w.heap.size)
    (h : ∀ v' w', w'.ownsRow base e size v' (n + m) (xs ++ news) → w.grownBy w' v.ownBlock → K (a.put o.dst v') w') :
    if Region.wanted o (yielded ops a.tmps) = true then Oper.wp P o a w K Q else E := by
  rw [if_pos (by simp [Region.wanted, hgd])]
  exact wp_app s x t ho base e z size bytes ht hi hzs hsz v n xs hs hown A m c news hx hl hnil hnews h1 h63 hbytes hbase h
end

theorem cell_far {w : World} {p q : Addr} {v u : Value} (h : w.cell? p = some u) (hn : q.block ≠ p.block) : (w.setCell q v).cell? p = some u := by
  have hl := World.block_lt_of_cell? w _ h
  have k : Keep (Own.One q.block) w (w.setCell q v) := (Keep.refl (Own.One q.block) w).set (.inl (Own.One.self q.block)) v
  exact (k.cell hl (fun e => hn e.symm)).trans h
theorem own_one {w : World} {base : Nat} {e : TypeId} {v x : Value} (h : w.ownsRow base e 1 v 1 [x]) : ∃ q c, v = .slice (some ⟨q, 0, none⟩) 1 c ∧ base ≤ q ∧ q < w.heap.size ∧ w.cell? ⟨q, 0, none⟩ = some x := by
  obtain ⟨A, c, rfl, hr, _, _, ha⟩ := Row.own h
  obtain ⟨_, h | ⟨g, cap, cur, e2, hb, _⟩⟩ := h
  · exact absurd h.1 (by simp)
  · cases e2
    obtain ⟨b, o, e3, hl, hc⟩ := hr 0 x rfl
    cases e3
    exact ⟨_, _, rfl, hb, hl, hc⟩

set_option maxHeartbeats 4000000 in
theorem NewWatcher_ok (w : World) (p m : Nat) (h0 : w.cell? ⟨p, 0, none⟩ = some (.int .i64 9)) (h1 : w.cell? ⟨p, 1, none⟩ = some (.int .u64 20)) :
    Calls Try.prog 7 #[.slice (some ⟨p, 0, none⟩) 1 m] w fun e w' => ∃ g a b c, e = .returned (.tuple #[.pointer (some ⟨g, 0, none⟩), .int .i64 0]) ∧ IsWt w' g a b c ⟨0, false, false, 0⟩ ∧ w.heap.size ≤ g ∧ w.heap.size ≤ b ∧ w.heap.size ≤ a ∧ Keep Zero w w' := by
  have lp := World.block_lt_of_cell? w _ h0
  go_enter Try.func7, Try.ntmps7
  go_wp2
  go_loopg [6, 11] 1 (fun k _ s11 wr => (k = 1 ∧ s11 = .int .i64 0 ∧ wr = w.alloc (.cells #[.slice none 0 0] 81)) ∨ (k = 0 ∧ s11 = .int .i64 1 ∧ Hid (∃ a b c, IsWt wr w.heap.size a b c ⟨0, false, false, 0⟩ ∧ w.heap.size ≤ b ∧ w.heap.size ≤ a ∧ Keep Zero w wr)))
  case atStart => exact .inl ⟨rfl, rfl, rfl⟩
  case round =>
    rcases hrel with ⟨rfl, rfl, rfl⟩ | ⟨rfl, rfl, HK⟩
    · go_wp2_with fail
      have hz : ∀ q, Blk ((w.alloc (.cells #[.slice none 0 0] 81)).alloc q) w.heap.size #[.slice none 0 0] 81 := fun q => (Blk.new w _ _).alloc _
      refine (of_0 (hz _)).mono ?_
      rintro e w2 ⟨rfl, hk⟩
      have HK2 := Lib.hid hk
      clear hk hz
      have HKw : Hid (Keep Zero w w2) := Lib.hid ((((Keep.refl Zero w).alloc _).alloc _).trans HK2.out (fun i hi => hi.elim))
      have HG : Hid (Blk w2 w.heap.size #[.slice none 0 0] 81) := Lib.hid (((Blk.new w #[.slice none 0 0] 81).alloc _).keep HK2.out id)
      have hB : Blk w2 (w.heap.size + 1) #[.int .i64 9, .int .u64 20] 35 := (Blk.at_ (by simp)).keep HK2.out id
      have c0 : w2.cell? ⟨w.heap.size, 0, none⟩ = some (.slice none 0 0) := HG.out.cell 0
      have f0 := HG.out.frozen 0
      have g0 : w2.cell? ⟨w.heap.size + 1, 0, none⟩ = some (.int .i64 9) := hB.cell 0
      have g1 : w2.cell? ⟨w.heap.size + 1, 1, none⟩ = some (.int .u64 20) := hB.cell 1
      have s0 := HG.out.lt
      have s1 := hB.lt
      clear hB
      go_upto_region 9 with fail
      go_region_law (first | (refine step_app_own rfl (.tmp 42) (.tmp 46) 79 rfl (w2.heap.size + 1) 82 (.pointer none) 1 8 under79 info82 rfl (by decide) (.slice none 0 0) 0 [] rfl (own_nil _ _ 82 1) (some ⟨w2.heap.size + 1, 0, none⟩) 1 1 [.pointer (some ⟨w2.heap.size, 0, none⟩)] rfl rfl (fun h => by cases h) (Row.blk (cs := #[.pointer (some ⟨w2.heap.size, 0, none⟩)]) (T := 82) (by repeat (first | exact Blk.at_ (by simp) | (with_reducible first | apply Blk.alloc | apply Blk.drew))) (fun i v hi => by simpa using hi)) (by intro u hu; simp at hu; subst hu; rfl) (by decide) (by decide) (by simp) ?_; intro v3 w3 hown3 hgr3; obtain ⟨q3, c3, rfl, ha3, hq3, hr3⟩ := own_one hown3; have hb3 := Blk.grown (w1 := w3) (g := w.heap.size) (cs := #[.slice none 0 0]) (T := 81) (by repeat (first | exact HG.out | (with_reducible first | apply Blk.alloc | apply Blk.drew))) hgr3 (by simp [Value.ownBlock]); have hl3 := Blk.grown (w1 := w3) (g := w2.heap.size) (cs := (⟨0, false, false, 0⟩ : Wt).cells) (T := 85) (by repeat (first | exact Blk.at_ (by simp) | (with_reducible first | apply Blk.alloc | apply Blk.drew))) hgr3 (by simp [Value.ownBlock]); have hk3 : Keep Zero w w3 := Keep.grown (by repeat (first | exact HKw.out | (with_reducible first | apply Keep.alloc | apply Keep.drew))) hgr3 (by simp [Value.ownBlock]); have y3 := hb3.cell 0; have z3 := hb3.frozen 0; have H3 := Lib.hid (And.intro hr3 (And.intro ha3 (And.intro hq3 (And.intro hb3 (And.intro hl3 hk3))))); clear hown3 hgr3 hr3 ha3 hq3 hb3 hl3 hk3))
      all_goals
        go_wp2_with fail
        go_roundg 0
        case measure => omega
        case rel =>
          refine .inr ⟨rfl, rfl, q3, w2.heap.size, c3, ⟨?_, ?_, ?_, by omega, ?_⟩, by omega, by have := H3.out.2.1; omega, ?_⟩
          · exact (H3.out.2.2.2.1.set 0 _).cast rfl
          · exact cell_far H3.out.1 (by have := H3.out.2.1; simp only; omega)
          · exact H3.out.2.2.2.2.1.far (by simp only; omega) _
          · have := H3.out.2.1; omega
          · exact H3.out.2.2.2.2.2.set (.inr (by simp)) _
    · go_wp2
      go_ret2
      obtain ⟨a, b, c, h, hb, ha, k⟩ := HK.out
      exact ⟨_, a, b, c, rfl, h, Nat.le_refl _, hb, ha, k⟩
end Go.Proofs.Ytcmfcnljdeddfaa.Beat
