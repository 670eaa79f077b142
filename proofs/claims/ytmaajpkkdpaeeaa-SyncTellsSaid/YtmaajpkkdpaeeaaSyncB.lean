/- What a producer's Tick comes to. -/
import Derived.Test.YtmaajpkkdpaeeaaSyncA
import Derived.Deep.DrawnRows
import Derived.Deep.RegionWith
namespace Go.Proofs.Ytmaajpkkdpaeeaa.Sync
attribute [local go_sem ↓] Go.wp_at_zero Go.wp_at_succ
open Go.RowKit Go.Proofs.Ytmaajpkkdpaeeaa.Own
/-- Tick by tick: what is told, how many ticks are left, the counter that comes next. -/
def tt (p : Nat) (ov : Int) : Nat → Nat → Int → List Int × Nat × Int
  | 0, l, x => ([], l, x)
  | k + 1, l, x => if l ≤ 1 then (x :: (tt p ov k p (after x ov)).1, (tt p ov k p (after x ov)).2) else tt p ov k (l - 1) x
theorem tt_skip (p : Nat) (ov : Int) (k : Nat) (x : Int) : ∀ (j l : Nat), j < l → tt p ov (k + j) l x = tt p ov k (l - j) x
  | 0, l, _ => rfl
  | j + 1, l, h => by
    rw [← Nat.add_assoc]
    simp only [tt]
    rw [if_neg (by omega), tt_skip p ov k x j (l - 1) (by omega)]
    congr 1
    omega
theorem tt_less {p : Nat} {ov : Int} {n l : Nat} {x : Int} (h : n < l) : tt p ov n l x = ([], l - n, x) := by
  have := tt_skip p ov 0 x n l h
  simpa [tt] using this
theorem tt_more {p : Nat} {ov : Int} {n l : Nat} {x : Int} (h : l ≤ n) (hl : 1 ≤ l) : tt p ov n l x = (x :: (tt p ov (n - l) p (after x ov)).1, (tt p ov (n - l) p (after x ov)).2) := by
  have e : n = (n - l + 1) + (l - 1) := by omega
  have := tt_skip p ov (n - l + 1) x (l - 1) l (by omega)
  rw [← e] at this
  rw [this]
  simp only [tt]
  rw [if_pos (by omega)]
theorem tt_range {p : Nat} {ov : Int} (hp : 1 ≤ p) (hov : Cnt ov) : ∀ (k l : Nat) (x : Int), 1 ≤ l → l ≤ p → 0 ≤ x → x ≤ 240 → 1 ≤ (tt p ov k l x).2.1 ∧ (tt p ov k l x).2.1 ≤ p ∧ 0 ≤ (tt p ov k l x).2.2 ∧ (tt p ov k l x).2.2 ≤ 240 ∧ (tt p ov k l x).1.length ≤ k
  | 0, l, x, h1, h2, h3, h4 => by simp [tt]; omega
  | k + 1, l, x, h1, h2, h3, h4 => by
    simp only [tt]
    split
    · have r := after_range (n := x) hov
      have := tt_range hp hov k p (after x ov) hp (Nat.le_refl _) r.1 r.2
      simp only [List.length_cons]
      omega
    · have := tt_range hp hov k (l - 1) x (by omega) (by omega) h3 h4
      omega

/-- A slice of ints that a call has made. -/
structure Made (w w' : World) (v : Value) (xs : List Int) : Prop where
  out : ∃ A c, v = .slice A xs.length c ∧ Row w' A (ints .i64 xs) ∧ xs.length ≤ c ∧ ∀ a, A = some a → w.heap.size ≤ a.block
def TickPost (w : World) (g : Nat) (p : Pr) (n : Nat) (e : Ending) (w' : World) : Prop :=
  ∃ v, e = .returned v ∧ Made w w' v (tt p.period.toNat p.ov n p.left.toNat p.next).1 ∧ IsPr w' g { p with left := (tt p.period.toNat p.ov n p.left.toNat p.next).2.1, next := (tt p.period.toNat p.ov n p.left.toNat p.next).2.2 } ∧ Keep (One g) w w'
theorem Tick_off {w : World} {g : Nat} {p : Pr} (h : IsPr w g p) (ho : p.on = false) (n : Int) : Calls Try.prog 10 #[.pointer (some ⟨g, 0, none⟩), .int .u64 n] w fun e w' => e = .returned (.slice none 0 0) ∧ w = w' := by
  obtain ⟨c0, c1, c2, c3, c4, f0, f1, f2, f3, f4⟩ := h.facts
  have H := Lib.hid h
  clear h
  go_enter Try.func10, Try.ntmps10
  go_wp2
  go_ret
  exact ⟨rfl, rfl⟩
theorem info3 : (Try.prog.info? 3).map (fun i => (i.zero, i.size, i.bytes)) = some (some (.int .i64 0), 1, 8) := by kernel_rfl
theorem under29 : Try.prog.underlying 29 = some (.slice 3) := by kernel_rfl
set_option maxRecDepth 100000 in
set_option maxHeartbeats 4000000 in
theorem Tick_on {w : World} {g : Nat} {p : Pr} (h : IsPr w g p) (ho : p.on = true) (hp : p.ok) (n : Int) (n0 : 0 ≤ n) (m : Int) (hm : m = min n 65536) : Calls Try.prog 10 #[.pointer (some ⟨g, 0, none⟩), .int .u64 n] w (TickPost w g p m.toNat) := by
  obtain ⟨c0, c1, c2, c3, c4, f0, f1, f2, f3, f4⟩ := h.facts
  have H := Lib.hid h
  have HP := Lib.hid hp
  have HO := Lib.hid ho
  have hgl := h.lt
  rw [ho] at c2
  clear h hp ho
  by_cases hn : n ≤ 65536
  · obtain rfl : m = n := by omega
    have HMM := Lib.hid n0
    clear hm
    go_enter Try.func10, Try.ntmps10
    go_wp2_with fail
    clear c0 c1 c2 c3 c4 f0 f1 f2 f3 f4
    go_loopg [1, 5] ((m : Int).toNat + 1) (fun k s1 s5 wr => ∃ (q : Nat) (l : Nat) (x : Int) (acc : List Int), q ≤ 65536 ∧ k = q + 1 ∧ s1 = .int .u64 q ∧ wr.ownsRow w.heap.size 3 1 s5 acc.length (ints .i64 acc) ∧ 1 ≤ l ∧ (l : Int) ≤ p.period ∧ 0 ≤ x ∧ x ≤ 240 ∧ IsPr wr g { p with left := l, next := x } ∧ Keep (One g) w wr ∧ acc.length + q ≤ 65536 ∧ Hid (acc ++ (tt p.period.toNat p.ov q l x).1 = (tt p.period.toNat p.ov (m : Int).toNat p.left.toNat p.next).1 ∧ (tt p.period.toNat p.ov q l x).2 = (tt p.period.toNat p.ov (m : Int).toNat p.left.toNat p.next).2))
    case atStart =>
      have ⟨q1, q2, q3, q4, q5, q6, q7, q8⟩ := HP.out
      have q9 := q8 HO.out
      exact ⟨(m : Int).toNat, p.left.toNat, p.next, [], by omega, rfl, by have := HMM.out; congr 1; omega, own_nil _ _ _ _, by omega, by omega, q6, q7, by
        have e : (p.left.toNat : Int) = p.left := by omega
        rw [e]
        exact H.out, Keep.refl _ _, by simp <;> omega, ⟨rfl, rfl⟩⟩
    case round =>
      obtain ⟨q, l, x, acc, hq, hk, rfl, hown, l1, l2, x0, x1, hi, hkp, hacc, HT⟩ := hrel
      have HOw := Lib.hid hown
      have HK := Lib.hid hkp
      have HM := Lib.hid hk
      obtain ⟨p1, p2, p3, _, _, _, _, _⟩ := HP.out
      obtain ⟨c0, c1, c2, c3, c4, f0, f1, f2, f3, f4⟩ := hi.facts
      have HI := Lib.hid hi
      have HC3 := Lib.hid p3
      clear hown hkp hk hi p3
      by_cases hlq : l ≤ q
      · have t1 : decide (l ≤ q) = true := decide_eq_true hlq
        go_wp2_with (at_builtin; refine app_own rfl (.tmp 25) (.tmp 30) 29 rfl w.heap.size 3 (.int .i64 0) 1 8 under29 info3 rfl (by decide) u5 acc.length (ints .i64 acc) rfl (HOw.out.alloc _) (some ⟨wr.heap.size, 0, none⟩) 1 1 [.int .i64 x] rfl rfl (fun h => by cases h) (Row.blk (Blk.new _ _ _) (fun i v hv => by simpa using hv)) (by simp [Value.oneCell']) (by unfold maxLen; omega) (by omega) (Nat.le_trans HK.out.size (by simp)) ?_; intro v' w2 hown2 hgr2)
        have hne : u5.ownBlock ≠ some g := fun e => by have := own_block HOw.out g e; omega
        have HI2 : Hid (IsPr w2 g { p with left := l, next := x }) := Lib.hid ((HI.out.alloc _).grown hgr2 hne)
        have HK2 : Hid (Keep (One g) w w2) := Lib.hid ((HK.out.alloc _).grown hgr2 (fun k hk => .inr (own_block HOw.out k hk)))
        have HO2 : Hid (w2.ownsRow w.heap.size 3 1 v' (acc ++ [x]).length (ints .i64 (acc ++ [x]))) := by
          rw [ints_append, List.length_append]
          exact hown2
        obtain ⟨d0, d1, d2, d3, d4, e0, e1, e2, e3, e4⟩ := IsPr.facts HI2.out
        have HR := Lib.hid (after_range (n := x) HC3.out)
        have HT2 : Hid (acc ++ [x] ++ (tt p.period.toNat p.ov (q - l) p.period.toNat (after x p.ov)).1 = (tt p.period.toNat p.ov (m : Int).toNat p.left.toNat p.next).1 ∧ (tt p.period.toNat p.ov (q - l) p.period.toNat (after x p.ov)).2 = (tt p.period.toNat p.ov (m : Int).toNat p.left.toNat p.next).2) := by
          have e := tt_more (p := p.period.toNat) (ov := p.ov) (n := q) (l := l) (x := x) hlq l1
          have h := HT.out
          rw [e] at h
          refine Lib.hid ?_
          simpa using h
        clear hown2 hgr2 hne c0 c1 c2 c3 c4 f0 f1 f2 f3 f4 HOw
        go_region_with (first | (go_at_call 27; refine (after_any x p.ov HC3.out (by omega) (by omega) _).mono ?_; rintro e w' ⟨rfl, rfl⟩))
        all_goals
          go_wp2_with fail
          go_roundg (q - l + 1)
          case measure => rw [HM.out]; omega
          case rel =>
            exact ⟨q - l, p.period.toNat, after x p.ov, acc ++ [x], by omega, rfl, by go_num, own_keep HO2.out (by repeat (with_reducible first | exact Keep.refl _ _ | apply Keep.set1 | apply Keep.drewN | apply Keep.drew)) (fun i hi => by unfold Own.One at hi; omega), by omega, by omega, HR.out.1, HR.out.2, by
              apply Blk.cast
              · repeat (first | (with_reducible first | apply Blk.set | apply Blk.drewN | apply Blk.drew) | exact HI2.out)
              · simp [Pr.cells] <;> omega, HK2.out.trans (by repeat (with_reducible first | exact Keep.refl _ _ | apply Keep.set1 | apply Keep.drewN | apply Keep.drew)) (fun i hi => .inl hi), by simp only [List.length_append, List.length_cons, List.length_nil]; omega, HT2.out⟩
      · have t1 : decide (l ≤ q) = false := decide_eq_false hlq
        have e := tt_less (p := p.period.toNat) (ov := p.ov) (n := q) (l := l) (x := x) (by omega)
        have HE := Lib.hid e
        clear e
        have HE2 := Lib.hid (HT.out.1)
        have HE3 := Lib.hid (HT.out.2)
        go_wp2
        go_ret
        refine ⟨u5, rfl, ?_, ?_, ?_⟩
        · rw [← HE2.out, HE.out, List.append_nil]
          obtain ⟨A', c', rfl, hr, hc, _, hb⟩ := Row.own (own_keep HOw.out (w1 := wr.setCell ⟨g, 3, none⟩ (.int .u64 (↑l - ↑q))) ((Keep.refl (One g) wr).set1 3 _) (fun i hi => by unfold Own.One at hi; omega))
          exact ⟨A', c', rfl, hr, hc, hb⟩
        · rw [← HE3.out, HE.out]
          apply Blk.cast
          · repeat (first | (with_reducible first | apply Blk.set | apply Blk.drewN | apply Blk.drew) | exact HI.out)
          · simp [Pr.cells] <;> omega
        · exact HK.out.trans ((Keep.refl (One g) wr).set1 3 _) (fun i hi => .inl hi)
  · have hm2 : m = 65536 := by omega
    have HMM := Lib.hid hm2
    have m0 : 0 ≤ m := by omega
    have m1 : m ≤ 65536 := by omega
    clear hm hm2
    have hn' : 65536 < n := by omega
    clear hn
    go_enter Try.func10, Try.ntmps10
    go_wp2_with fail
    clear c0 c1 c2 c3 c4 f0 f1 f2 f3 f4
    go_loopg [1, 5] ((m : Int).toNat + 1) (fun k s1 s5 wr => ∃ (q : Nat) (l : Nat) (x : Int) (acc : List Int), q ≤ 65536 ∧ k = q + 1 ∧ s1 = .int .u64 q ∧ wr.ownsRow w.heap.size 3 1 s5 acc.length (ints .i64 acc) ∧ 1 ≤ l ∧ (l : Int) ≤ p.period ∧ 0 ≤ x ∧ x ≤ 240 ∧ IsPr wr g { p with left := l, next := x } ∧ Keep (One g) w wr ∧ acc.length + q ≤ 65536 ∧ Hid (acc ++ (tt p.period.toNat p.ov q l x).1 = (tt p.period.toNat p.ov (m : Int).toNat p.left.toNat p.next).1 ∧ (tt p.period.toNat p.ov q l x).2 = (tt p.period.toNat p.ov (m : Int).toNat p.left.toNat p.next).2))
    case atStart =>
      have ⟨q1, q2, q3, q4, q5, q6, q7, q8⟩ := HP.out
      have q9 := q8 HO.out
      exact ⟨(m : Int).toNat, p.left.toNat, p.next, [], by omega, rfl, by have := HMM.out; congr 1; omega, own_nil _ _ _ _, by omega, by omega, q6, q7, by
        have e : (p.left.toNat : Int) = p.left := by omega
        rw [e]
        exact H.out, Keep.refl _ _, by simp <;> omega, ⟨rfl, rfl⟩⟩
    case round =>
      obtain ⟨q, l, x, acc, hq, hk, rfl, hown, l1, l2, x0, x1, hi, hkp, hacc, HT⟩ := hrel
      have HOw := Lib.hid hown
      have HK := Lib.hid hkp
      have HM := Lib.hid hk
      obtain ⟨p1, p2, p3, _, _, _, _, _⟩ := HP.out
      obtain ⟨c0, c1, c2, c3, c4, f0, f1, f2, f3, f4⟩ := hi.facts
      have HI := Lib.hid hi
      have HC3 := Lib.hid p3
      clear hown hkp hk hi p3
      by_cases hlq : l ≤ q
      · have t1 : decide (l ≤ q) = true := decide_eq_true hlq
        go_wp2_with (at_builtin; refine app_own rfl (.tmp 25) (.tmp 30) 29 rfl w.heap.size 3 (.int .i64 0) 1 8 under29 info3 rfl (by decide) u5 acc.length (ints .i64 acc) rfl (HOw.out.alloc _) (some ⟨wr.heap.size, 0, none⟩) 1 1 [.int .i64 x] rfl rfl (fun h => by cases h) (Row.blk (Blk.new _ _ _) (fun i v hv => by simpa using hv)) (by simp [Value.oneCell']) (by unfold maxLen; omega) (by omega) (Nat.le_trans HK.out.size (by simp)) ?_; intro v' w2 hown2 hgr2)
        have hne : u5.ownBlock ≠ some g := fun e => by have := own_block HOw.out g e; omega
        have HI2 : Hid (IsPr w2 g { p with left := l, next := x }) := Lib.hid ((HI.out.alloc _).grown hgr2 hne)
        have HK2 : Hid (Keep (One g) w w2) := Lib.hid ((HK.out.alloc _).grown hgr2 (fun k hk => .inr (own_block HOw.out k hk)))
        have HO2 : Hid (w2.ownsRow w.heap.size 3 1 v' (acc ++ [x]).length (ints .i64 (acc ++ [x]))) := by
          rw [ints_append, List.length_append]
          exact hown2
        obtain ⟨d0, d1, d2, d3, d4, e0, e1, e2, e3, e4⟩ := IsPr.facts HI2.out
        have HR := Lib.hid (after_range (n := x) HC3.out)
        have HT2 : Hid (acc ++ [x] ++ (tt p.period.toNat p.ov (q - l) p.period.toNat (after x p.ov)).1 = (tt p.period.toNat p.ov (m : Int).toNat p.left.toNat p.next).1 ∧ (tt p.period.toNat p.ov (q - l) p.period.toNat (after x p.ov)).2 = (tt p.period.toNat p.ov (m : Int).toNat p.left.toNat p.next).2) := by
          have e := tt_more (p := p.period.toNat) (ov := p.ov) (n := q) (l := l) (x := x) hlq l1
          have h := HT.out
          rw [e] at h
          refine Lib.hid ?_
          simpa using h
        clear hown2 hgr2 hne c0 c1 c2 c3 c4 f0 f1 f2 f3 f4 HOw
        go_region_with (first | (go_at_call 27; refine (after_any x p.ov HC3.out (by omega) (by omega) _).mono ?_; rintro e w' ⟨rfl, rfl⟩))
        all_goals
          go_wp2_with fail
          go_roundg (q - l + 1)
          case measure => rw [HM.out]; omega
          case rel =>
            exact ⟨q - l, p.period.toNat, after x p.ov, acc ++ [x], by omega, rfl, by go_num, own_keep HO2.out (by repeat (with_reducible first | exact Keep.refl _ _ | apply Keep.set1 | apply Keep.drewN | apply Keep.drew)) (fun i hi => by unfold Own.One at hi; omega), by omega, by omega, HR.out.1, HR.out.2, by
              apply Blk.cast
              · repeat (first | (with_reducible first | apply Blk.set | apply Blk.drewN | apply Blk.drew) | exact HI2.out)
              · simp [Pr.cells] <;> omega, HK2.out.trans (by repeat (with_reducible first | exact Keep.refl _ _ | apply Keep.set1 | apply Keep.drewN | apply Keep.drew)) (fun i hi => .inl hi), by simp only [List.length_append, List.length_cons, List.length_nil]; omega, HT2.out⟩
      · have t1 : decide (l ≤ q) = false := decide_eq_false hlq
        have e := tt_less (p := p.period.toNat) (ov := p.ov) (n := q) (l := l) (x := x) (by omega)
        have HE := Lib.hid e
        clear e
        have HE2 := Lib.hid (HT.out.1)
        have HE3 := Lib.hid (HT.out.2)
        go_wp2
        go_ret
        refine ⟨u5, rfl, ?_, ?_, ?_⟩
        · rw [← HE2.out, HE.out, List.append_nil]
          obtain ⟨A', c', rfl, hr, hc, _, hb⟩ := Row.own (own_keep HOw.out (w1 := wr.setCell ⟨g, 3, none⟩ (.int .u64 (↑l - ↑q))) ((Keep.refl (One g) wr).set1 3 _) (fun i hi => by unfold Own.One at hi; omega))
          exact ⟨A', c', rfl, hr, hc, hb⟩
        · rw [← HE3.out, HE.out]
          apply Blk.cast
          · repeat (first | (with_reducible first | apply Blk.set | apply Blk.drewN | apply Blk.drew) | exact HI.out)
          · simp [Pr.cells] <;> omega
        · exact HK.out.trans ((Keep.refl (One g) wr).set1 3 _) (fun i hi => .inl hi)
end Go.Proofs.Ytmaajpkkdpaeeaa.Sync
