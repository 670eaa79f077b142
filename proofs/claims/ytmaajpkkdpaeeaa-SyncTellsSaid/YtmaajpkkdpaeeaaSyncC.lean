/- What the document's producer comes to. -/
import Derived.Test.YtmaajpkkdpaeeaaSyncB
namespace Go.Proofs.Ytmaajpkkdpaeeaa.Sync
open Go.RowKit Go.Proofs.Ytmaajpkkdpaeeaa.Own
theorem after_next (told ov : Int) : after (after told ov) ov = after (told + 1) ov := by
  unfold after
  split
  · rfl
  · rw [Int.emod_add_emod]
def RStartPost (w : World) (g : Nat) (p : Rp) (b : Bool) (e : Ending) (w' : World) : Prop := e = .returned (.tuple #[]) ∧ IsRp w' g (if b && !p.on then { p with on := b, went := 0, told := 0 } else { p with on := b }) ∧ Keep (One g) w w'
set_option maxHeartbeats 2000000 in
theorem RStart_any {w : World} {g : Nat} {p : Rp} (h : IsRp w g p) (b : Bool) : Calls Try.prog 18 #[.pointer (some ⟨g, 0, none⟩), .bool b] w (RStartPost w g p b) := by
  obtain ⟨c0, c1, c2, c3, c4, f0, f1, f2, f3, f4⟩ := h.facts
  have H := Lib.hid h
  clear h
  unfold RStartPost
  cases hb : b && !p.on with
  | true =>
    obtain ⟨rfl, ho⟩ : b = true ∧ p.on = false := by simpa using hb
    clear hb
    go_enter Try.func18, Try.ntmps18
    go_wp2
    go_end0
    refine ⟨rfl, ?_, ?_⟩
    · apply Blk.cast
      · repeat (first | (with_reducible first | apply Blk.set | apply Blk.drewN | apply Blk.drew) | exact H.out)
      · simp [Rp.cells]
    ·
      repeat (with_reducible first | exact Keep.refl _ _ | apply Keep.set1 | apply Keep.drewN | apply Keep.drew | apply Keep.alloc)
  | false =>
    have hb' : b = false ∨ (b = true ∧ p.on = true) := by cases b <;> simp_all
    clear hb
    rcases hb' with rfl | ⟨rfl, ho⟩
    all_goals
      go_enter Try.func18, Try.ntmps18
      go_wp2
      go_end0
      refine ⟨rfl, ?_, ?_⟩
      · apply Blk.cast
        · repeat (first | (with_reducible first | apply Blk.set | apply Blk.drewN | apply Blk.drew) | exact H.out)
        · simp [Rp.cells]
      ·
        repeat (with_reducible first | exact Keep.refl _ _ | apply Keep.set1 | apply Keep.drewN | apply Keep.drew | apply Keep.alloc)

/-- The two producers say the same. -/
def Same (p : Pr) (r : Rp) : Prop := p.period = r.period ∧ p.ov = r.ov ∧ p.on = r.on ∧ (p.on = true → p.left = r.period - r.went ∧ p.next = after r.told r.ov)
def Rp.ok (p : Rp) (T : Int) : Prop := 1 ≤ p.period ∧ p.period ≤ 4294967296 ∧ Cnt p.ov ∧ 0 ≤ p.went ∧ p.went < p.period ∧ 0 ≤ p.told ∧ p.told ≤ T
def RTickPost (w : World) (g : Nat) (p : Rp) (n : Nat) (e : Ending) (w' : World) : Prop :=
  ∃ v, e = .returned v ∧ Made w w' v (tt p.period.toNat p.ov n (p.period - p.went).toNat (after p.told p.ov)).1 ∧ (∃ q : Rp, IsRp w' g q ∧ q.period = p.period ∧ q.ov = p.ov ∧ q.on = true ∧ q.ok (p.told + n) ∧ q.period - q.went = (tt p.period.toNat p.ov n (p.period - p.went).toNat (after p.told p.ov)).2.1 ∧ after q.told q.ov = (tt p.period.toNat p.ov n (p.period - p.went).toNat (after p.told p.ov)).2.2) ∧ Keep (One g) w w'
set_option maxHeartbeats 2000000 in
theorem RTick_off {w : World} {g : Nat} {p : Rp} (h : IsRp w g p) (ho : p.on = false) (n : Int) (n0 : 0 ≤ n) : Calls Try.prog 17 #[.pointer (some ⟨g, 0, none⟩), .int .u64 n] w fun e w' => (∃ a c, e = .returned (.slice (some a) 0 c)) ∧ Keep Zero w w' := by
  obtain ⟨c0, c1, c2, c3, c4, f0, f1, f2, f3, f4⟩ := h.facts
  have H := Lib.hid h
  have hgl := h.lt
  rw [ho] at c2
  clear h ho
  have HK : Hid (Keep Zero w (w.alloc (.cells #[] 3))) := (Keep.refl _ _).alloc _
  by_cases hn : 65536 < n
  · go_enter Try.func17, Try.ntmps17
    go_wp2_with fail
    go_loopg [1, 5] 1 (fun k s1 s5 wr => k = 1 ∧ s1 = .int .u64 65536 ∧ s5 = .slice (some ⟨w.heap.size, 0, none⟩) 0 0 ∧ wr = w.alloc (.cells #[] 3))
    case atStart => exact ⟨rfl, rfl, rfl, rfl⟩
    case round =>
      obtain ⟨_, rfl, rfl, rfl⟩ := hrel
      go_wp2
      go_ret
      exact ⟨⟨_, _, rfl⟩, HK.out⟩
  · by_cases hz : 0 < n
    · go_enter Try.func17, Try.ntmps17
      go_wp2_with fail
      go_loopg [1, 5] 1 (fun k s1 s5 wr => k = 1 ∧ s1 = .int .u64 n ∧ s5 = .slice (some ⟨w.heap.size, 0, none⟩) 0 0 ∧ wr = w.alloc (.cells #[] 3))
      case atStart => exact ⟨rfl, rfl, rfl, rfl⟩
      case round =>
        obtain ⟨_, rfl, rfl, rfl⟩ := hrel
        go_wp2
        go_ret
        exact ⟨⟨_, _, rfl⟩, HK.out⟩
    · obtain rfl : n = 0 := by omega
      clear hn hz n0
      go_enter Try.func17, Try.ntmps17
      go_wp2_with fail
      go_loopg [1, 5] 1 (fun k s1 s5 wr => k = 1 ∧ s1 = .int .u64 0 ∧ s5 = .slice (some ⟨w.heap.size, 0, none⟩) 0 0 ∧ wr = w.alloc (.cells #[] 3))
      case atStart => exact ⟨rfl, rfl, rfl, rfl⟩
      case round =>
        obtain ⟨_, rfl, rfl, rfl⟩ := hrel
        go_wp2
        go_ret
        exact ⟨⟨_, _, rfl⟩, HK.out⟩
theorem tt_one {p : Nat} {ov : Int} {k l : Nat} {x : Int} (h : l = 1) : tt p ov (k + 1) l x = (x :: (tt p ov k p (after x ov)).1, (tt p ov k p (after x ov)).2) := by
  subst h
  simp [tt]
theorem tt_two {p : Nat} {ov : Int} {k l : Nat} {x : Int} (h : 2 ≤ l) : tt p ov (k + 1) l x = tt p ov k (l - 1) x := by
  simp only [tt]
  rw [if_neg (by omega)]
set_option maxRecDepth 100000 in
set_option maxHeartbeats 8000000 in
theorem RTick_on {w : World} {g : Nat} {p : Rp} (h : IsRp w g p) (ho : p.on = true) (T : Int) (hT : T ≤ 4611686018427387904) (hp : p.ok T) (n : Int) (n0 : 0 ≤ n) (m : Int) (hm : m = min n 65536) : Calls Try.prog 17 #[.pointer (some ⟨g, 0, none⟩), .int .u64 n] w (RTickPost w g p m.toNat) := by
  have H := Lib.hid h
  have HP := Lib.hid hp
  have HO := Lib.hid ho
  have hgl := h.lt
  clear h hp ho
  by_cases hn : 65536 < n
  · have hm2 : m = 65536 := by omega
    have HMM := Lib.hid hm2
    have m0 : 0 ≤ m := by omega
    have m1 : m ≤ 65536 := by omega
    clear hm hm2
    go_enter Try.func17, Try.ntmps17
    go_wp2_with fail
    go_loopg [1, 5] (m.toNat + 1) (fun k s1 s5 wr => ∃ (q : Nat) (d : Rp) (acc : List Int), q ≤ 65536 ∧ k = q + 1 ∧ s1 = .int .u64 q ∧ wr.ownsRow w.heap.size 3 1 s5 acc.length (ints .i64 acc) ∧ d.period = p.period ∧ d.ov = p.ov ∧ d.on = true ∧ d.ok (p.told + (m.toNat - q)) ∧ IsRp wr g d ∧ Keep (One g) w wr ∧ acc.length + q ≤ m.toNat ∧ Hid (acc ++ (tt p.period.toNat p.ov q (p.period - d.went).toNat (after d.told p.ov)).1 = (tt p.period.toNat p.ov m.toNat (p.period - p.went).toNat (after p.told p.ov)).1 ∧ (tt p.period.toNat p.ov q (p.period - d.went).toNat (after d.told p.ov)).2 = (tt p.period.toNat p.ov m.toNat (p.period - p.went).toNat (after p.told p.ov)).2))
    case atStart =>
      have hm := HMM.out
      exact ⟨m.toNat, p, [], by omega, rfl, by congr 1; omega, ⟨rfl, .inr ⟨_, 0, #[], rfl, Nat.le_refl _, Blk.new w #[] 3, Nat.le_refl _, Nat.zero_le _, rfl, rfl⟩⟩, rfl, rfl, HO.out, by
        obtain ⟨r1, r2, r3, r4, r5, r6, r7⟩ := HP.out
        exact ⟨r1, r2, r3, r4, r5, r6, by omega⟩, H.out.alloc _, (Keep.refl _ _).alloc _, by simp, ⟨rfl, rfl⟩⟩
    case round =>
      obtain ⟨q, d, acc, hq, hk, rfl, hown, e1, e2, e3, hok, hi, hkp, hacc, HT⟩ := hrel
      have HOw := Lib.hid hown
      have HK := Lib.hid hkp
      have HM := Lib.hid hk
      have HE := Lib.hid (And.intro e1 (And.intro e2 e3))
      have HOK := Lib.hid hok
      obtain ⟨p1, p2, p3, w0, w1, t0, t1⟩ := hok
      obtain ⟨c0, c1, c2, c3, c4, f0, f1, f2, f3, f4⟩ := hi.facts
      rw [e3] at c2
      have HI := Lib.hid hi
      have HC3 := Lib.hid p3
      have ht : d.told ≤ 4611686018427387904 + 65536 := by
        have := HP.out
        unfold Rp.ok at this
        omega
      clear hown hkp hk hi p3 e1 e2 e3 t1
      by_cases hq0 : q = 0
      · subst hq0
        have HE2 := Lib.hid (HT.out.1)
        have HE3 := Lib.hid (HT.out.2)
        go_wp2_with fail
        go_ret
        refine ⟨u5, rfl, ?_, ?_, HK.out⟩
        · rw [← HE2.out]
          simp only [tt, List.append_nil]
          obtain ⟨A', c', rfl, hr, hc, _, hb⟩ := Row.own HOw.out
          exact ⟨A', c', rfl, hr, hc, hb⟩
        · rw [← HE3.out]
          refine ⟨d, HI.out, HE.out.1, HE.out.2.1, HE.out.2.2, by obtain ⟨r1, r2, r3, r4, r5, r6, r7⟩ := HOK.out; exact ⟨r1, r2, r3, r4, r5, r6, by omega⟩, ?_, ?_⟩
          · have := HOK.out
            have := HE.out.1
            unfold Rp.ok at *
            simp only [tt]
            omega
          · simp only [tt]
            rw [HE.out.2.1]
      · have hq1 : 0 < q := by omega
        clear hq0
        obtain ⟨q, rfl⟩ : ∃ q', q = q' + 1 := ⟨q - 1, by omega⟩
        by_cases hl : d.went + 1 = d.period
        · have b1 : (d.went + 1 == d.period) = true := by simp [hl]
          have HL := Lib.hid hl
          have HT2 : Hid (acc ++ [after d.told d.ov] ++ (tt p.period.toNat p.ov q p.period.toNat (after (d.told + 1) p.ov)).1 = (tt p.period.toNat p.ov m.toNat (p.period - p.went).toNat (after p.told p.ov)).1 ∧ (tt p.period.toNat p.ov q p.period.toNat (after (d.told + 1) p.ov)).2 = (tt p.period.toNat p.ov m.toNat (p.period - p.went).toNat (after p.told p.ov)).2) := by
            have h := HT.out
            have e := HE.out.1
            rw [tt_one (by omega), after_next] at h
            refine Lib.hid ?_
            rw [HE.out.2.1]
            simpa using h
          have hk1 : d.went + 1 ≤ 4294967296 := by omega
          clear hl
          by_cases ho : d.ov = 0
          · have b2 : decide (0 < d.ov) = false := by simp [ho]
            have HX : Hid (after d.told d.ov = 0) := by unfold Hid after; simp [ho]
            have HX0 : Hid (d.ov = 0) := ho
            clear ho
            go_wp2_with fail
            go_quiet (fail)
            go_wp2_with (at_builtin; refine app_own rfl (.tmp 51) (.tmp 53) 29 rfl w.heap.size 3 (.int .i64 0) 1 8 under29 info3 rfl (by decide) u5 acc.length (ints .i64 acc) rfl (own_keep HOw.out (S := Own.One g) (by repeat (with_reducible first | exact Keep.refl _ _ | apply Keep.set1 | apply Keep.drewN | apply Keep.drew | apply Keep.alloc)) (fun i hi => by unfold Own.One at hi; omega)) (some ⟨wr.heap.size, 0, none⟩) 1 1 [.int .i64 0] rfl rfl (fun h => by cases h) (Row.blk (Blk.at_ (by simp)) (fun i v hv => by simpa using hv)) (by simp [Value.oneCell']) (by unfold maxLen; omega) (by omega) (Nat.le_trans HK.out.size (by simp)) ?_; intro v' w2 hown2 hgr2; have hne : u5.ownBlock ≠ some g := fun e => (by have := own_block HOw.out g e; omega); have HI2 : Hid (IsRp w2 g { d with went := d.went + 1 }) := Lib.hid (Blk.grown (Blk.cast (by repeat (first | (with_reducible first | apply Blk.set | apply Blk.drewN | apply Blk.drew | apply Blk.alloc) | exact HI.out)) (by simp [Rp.cells, HE.out.2.2])) hgr2 hne); have HK2 : Hid (Keep (Own.One g) w w2) := Lib.hid (Keep.grown (HK.out.trans (S' := Own.One g) (by repeat (with_reducible first | exact Keep.refl _ _ | apply Keep.set1 | apply Keep.drewN | apply Keep.drew | apply Keep.alloc)) (fun i hi => .inl hi)) hgr2 (fun k hk => .inr (own_block HOw.out k hk))); have HO2 : Hid (w2.ownsRow w.heap.size 3 1 v' (acc ++ [0]).length (ints .i64 (acc ++ [0]))) := (by rw [ints_append, List.length_append]; exact hown2); obtain ⟨d0, d1, d2, d3, d4, q0, q1, q2, q3, q4⟩ := IsRp.facts HI2.out; clear hown2 hgr2 hne c0 c1 c2 c3 c4 f0 f1 f2 f3 f4)
            go_roundg (q + 1)
            case measure => rw [HM.out]; omega
            case rel =>
              have hX := HX.out
              exact ⟨q, { d with went := 0, told := d.told + 1 }, acc ++ [0], by omega, rfl, by go_num, own_keep HO2.out (S := Own.One g) (by repeat (with_reducible first | exact Keep.refl _ _ | apply Keep.set1 | apply Keep.drewN | apply Keep.drew)) (fun i hi => by unfold Own.One at hi; omega), HE.out.1, HE.out.2.1, HE.out.2.2, by obtain ⟨r1, r2, r3, r4, r5, r6, r7⟩ := HOK.out; exact ⟨r1, r2, r3, by simp only; omega, by simp only; omega, by simp only; omega, by simp only; omega⟩, by
                apply Blk.cast
                · repeat (first | (with_reducible first | apply Blk.set | apply Blk.drewN | apply Blk.drew) | exact HI2.out)
                · simp [Rp.cells], HK2.out.trans (S' := Own.One g) (by repeat (with_reducible first | exact Keep.refl _ _ | apply Keep.set1 | apply Keep.drewN | apply Keep.drew)) (fun i hi => .inl hi), by simp only [List.length_append, List.length_cons, List.length_nil]; omega, by
                have h := HT2.out
                rw [hX] at h
                refine Lib.hid ?_
                simpa using h⟩
          · have o2 : 2 ≤ d.ov := by have := HC3.out; unfold Cnt at this; omega
            have o3 : d.ov ≤ 240 := by have := HC3.out; unfold Cnt at this; omega
            have b2 : decide (0 < d.ov) = true := by simp; omega
            have HX : Hid (after d.told d.ov = d.told % d.ov + 1) := by unfold Hid after; simp [ho]
            have m2 := Int.emod_nonneg d.told (b := d.ov) (by omega)
            have m3 := Int.emod_lt_of_pos d.told (b := d.ov) (by omega)
            clear ho
            go_wp2_with fail
            go_quiet (fail)
            go_wp2_with fail
            go_quiet (fail)
            go_wp2_with (at_builtin; refine app_own rfl (.tmp 51) (.tmp 53) 29 rfl w.heap.size 3 (.int .i64 0) 1 8 under29 info3 rfl (by decide) u5 acc.length (ints .i64 acc) rfl (own_keep HOw.out (S := Own.One g) (by repeat (with_reducible first | exact Keep.refl _ _ | apply Keep.set1 | apply Keep.drewN | apply Keep.drew | apply Keep.alloc)) (fun i hi => by unfold Own.One at hi; omega)) (some ⟨wr.heap.size, 0, none⟩) 1 1 [.int .i64 (d.told % d.ov + 1)] rfl rfl (fun h => by cases h) (Row.blk (Blk.at_ (by simp)) (fun i v hv => by simpa using hv)) (by simp [Value.oneCell']) (by unfold maxLen; omega) (by omega) (Nat.le_trans HK.out.size (by simp)) ?_; intro v' w2 hown2 hgr2; have hne : u5.ownBlock ≠ some g := fun e => (by have := own_block HOw.out g e; omega); have HI2 : Hid (IsRp w2 g { d with went := d.went + 1 }) := Lib.hid (Blk.grown (Blk.cast (by repeat (first | (with_reducible first | apply Blk.set | apply Blk.drewN | apply Blk.drew | apply Blk.alloc) | exact HI.out)) (by simp [Rp.cells, HE.out.2.2])) hgr2 hne); have HK2 : Hid (Keep (Own.One g) w w2) := Lib.hid (Keep.grown (HK.out.trans (S' := Own.One g) (by repeat (with_reducible first | exact Keep.refl _ _ | apply Keep.set1 | apply Keep.drewN | apply Keep.drew | apply Keep.alloc)) (fun i hi => .inl hi)) hgr2 (fun k hk => .inr (own_block HOw.out k hk))); have HO2 : Hid (w2.ownsRow w.heap.size 3 1 v' (acc ++ [(d.told % d.ov + 1)]).length (ints .i64 (acc ++ [(d.told % d.ov + 1)]))) := (by rw [ints_append, List.length_append]; exact hown2); obtain ⟨d0, d1, d2, d3, d4, q0, q1, q2, q3, q4⟩ := IsRp.facts HI2.out; clear hown2 hgr2 hne c0 c1 c2 c3 c4 f0 f1 f2 f3 f4)
            go_roundg (q + 1)
            case measure => rw [HM.out]; omega
            case rel =>
              have hX := HX.out
              exact ⟨q, { d with went := 0, told := d.told + 1 }, acc ++ [(d.told % d.ov + 1)], by omega, rfl, by go_num, own_keep HO2.out (S := Own.One g) (by repeat (with_reducible first | exact Keep.refl _ _ | apply Keep.set1 | apply Keep.drewN | apply Keep.drew)) (fun i hi => by unfold Own.One at hi; omega), HE.out.1, HE.out.2.1, HE.out.2.2, by obtain ⟨r1, r2, r3, r4, r5, r6, r7⟩ := HOK.out; exact ⟨r1, r2, r3, by simp only; omega, by simp only; omega, by simp only; omega, by simp only; omega⟩, by
                apply Blk.cast
                · repeat (first | (with_reducible first | apply Blk.set | apply Blk.drewN | apply Blk.drew) | exact HI2.out)
                · simp [Rp.cells], HK2.out.trans (S' := Own.One g) (by repeat (with_reducible first | exact Keep.refl _ _ | apply Keep.set1 | apply Keep.drewN | apply Keep.drew)) (fun i hi => .inl hi), by simp only [List.length_append, List.length_cons, List.length_nil]; omega, by
                have h := HT2.out
                rw [hX] at h
                refine Lib.hid ?_
                simpa using h⟩
        · have b1 : (d.went + 1 == d.period) = false := by simp [hl]
          have hl2 : d.went + 1 < d.period := by omega
          have HT2 : Hid (acc ++ (tt p.period.toNat p.ov q (p.period - (d.went + 1)).toNat (after d.told p.ov)).1 = (tt p.period.toNat p.ov m.toNat (p.period - p.went).toNat (after p.told p.ov)).1 ∧ (tt p.period.toNat p.ov q (p.period - (d.went + 1)).toNat (after d.told p.ov)).2 = (tt p.period.toNat p.ov m.toNat (p.period - p.went).toNat (after p.told p.ov)).2) := by
            have h := HT.out
            have e := HE.out.1
            rw [tt_two (by omega), show (p.period - d.went).toNat - 1 = (p.period - (d.went + 1)).toNat by omega] at h
            exact h
          clear hl
          go_wp2_with fail
          go_quiet (fail)
          go_wp2_with fail
          go_roundg (q + 1)
          case measure => rw [HM.out]; omega
          case rel => exact ⟨q, { d with went := d.went + 1 }, acc, by omega, rfl, by go_num, own_keep HOw.out (S := Own.One g) (by
            repeat (with_reducible first | exact Keep.refl _ _ | apply Keep.set1 | apply Keep.drewN | apply Keep.drew | apply Keep.alloc)
            ) (fun i hi => by unfold Own.One at hi; omega), HE.out.1, HE.out.2.1, HE.out.2.2, by obtain ⟨r1, r2, r3, r4, r5, r6, r7⟩ := HOK.out; exact ⟨r1, r2, r3, by simp only; omega, by simp only; omega, r6, by simp only; omega⟩, by
              apply Blk.cast
              · repeat (first | (with_reducible first | apply Blk.set | apply Blk.drewN | apply Blk.drew) | exact HI.out)
              · simp [Rp.cells, HE.out.2.2], HK.out.trans (S' := Own.One g) (by
            repeat (with_reducible first | exact Keep.refl _ _ | apply Keep.set1 | apply Keep.drewN | apply Keep.drew | apply Keep.alloc)
            ) (fun i hi => .inl hi), by omega, HT2.out⟩
  · obtain rfl : m = n := by omega
    have HMM := Lib.hid n0
    have m0 : 0 ≤ m := by omega
    have m1 : m ≤ 65536 := by omega
    clear hm
    go_enter Try.func17, Try.ntmps17
    go_wp2_with fail
    go_loopg [1, 5] (m.toNat + 1) (fun k s1 s5 wr => ∃ (q : Nat) (d : Rp) (acc : List Int), q ≤ 65536 ∧ k = q + 1 ∧ s1 = .int .u64 q ∧ wr.ownsRow w.heap.size 3 1 s5 acc.length (ints .i64 acc) ∧ d.period = p.period ∧ d.ov = p.ov ∧ d.on = true ∧ d.ok (p.told + (m.toNat - q)) ∧ IsRp wr g d ∧ Keep (One g) w wr ∧ acc.length + q ≤ m.toNat ∧ Hid (acc ++ (tt p.period.toNat p.ov q (p.period - d.went).toNat (after d.told p.ov)).1 = (tt p.period.toNat p.ov m.toNat (p.period - p.went).toNat (after p.told p.ov)).1 ∧ (tt p.period.toNat p.ov q (p.period - d.went).toNat (after d.told p.ov)).2 = (tt p.period.toNat p.ov m.toNat (p.period - p.went).toNat (after p.told p.ov)).2))
    case atStart =>
      have hm := HMM.out
      exact ⟨m.toNat, p, [], by omega, rfl, by congr 1; omega, ⟨rfl, .inr ⟨_, 0, #[], rfl, Nat.le_refl _, Blk.new w #[] 3, Nat.le_refl _, Nat.zero_le _, rfl, rfl⟩⟩, rfl, rfl, HO.out, by
        obtain ⟨r1, r2, r3, r4, r5, r6, r7⟩ := HP.out
        exact ⟨r1, r2, r3, r4, r5, r6, by omega⟩, H.out.alloc _, (Keep.refl _ _).alloc _, by simp, ⟨rfl, rfl⟩⟩
    case round =>
      obtain ⟨q, d, acc, hq, hk, rfl, hown, e1, e2, e3, hok, hi, hkp, hacc, HT⟩ := hrel
      have HOw := Lib.hid hown
      have HK := Lib.hid hkp
      have HM := Lib.hid hk
      have HE := Lib.hid (And.intro e1 (And.intro e2 e3))
      have HOK := Lib.hid hok
      obtain ⟨p1, p2, p3, w0, w1, t0, t1⟩ := hok
      obtain ⟨c0, c1, c2, c3, c4, f0, f1, f2, f3, f4⟩ := hi.facts
      rw [e3] at c2
      have HI := Lib.hid hi
      have HC3 := Lib.hid p3
      have ht : d.told ≤ 4611686018427387904 + 65536 := by
        have := HP.out
        unfold Rp.ok at this
        omega
      clear hown hkp hk hi p3 e1 e2 e3 t1
      by_cases hq0 : q = 0
      · subst hq0
        have HE2 := Lib.hid (HT.out.1)
        have HE3 := Lib.hid (HT.out.2)
        go_wp2_with fail
        go_ret
        refine ⟨u5, rfl, ?_, ?_, HK.out⟩
        · rw [← HE2.out]
          simp only [tt, List.append_nil]
          obtain ⟨A', c', rfl, hr, hc, _, hb⟩ := Row.own HOw.out
          exact ⟨A', c', rfl, hr, hc, hb⟩
        · rw [← HE3.out]
          refine ⟨d, HI.out, HE.out.1, HE.out.2.1, HE.out.2.2, by obtain ⟨r1, r2, r3, r4, r5, r6, r7⟩ := HOK.out; exact ⟨r1, r2, r3, r4, r5, r6, by omega⟩, ?_, ?_⟩
          · have := HOK.out
            have := HE.out.1
            unfold Rp.ok at *
            simp only [tt]
            omega
          · simp only [tt]
            rw [HE.out.2.1]
      · have hq1 : 0 < q := by omega
        clear hq0
        obtain ⟨q, rfl⟩ : ∃ q', q = q' + 1 := ⟨q - 1, by omega⟩
        by_cases hl : d.went + 1 = d.period
        · have b1 : (d.went + 1 == d.period) = true := by simp [hl]
          have HL := Lib.hid hl
          have HT2 : Hid (acc ++ [after d.told d.ov] ++ (tt p.period.toNat p.ov q p.period.toNat (after (d.told + 1) p.ov)).1 = (tt p.period.toNat p.ov m.toNat (p.period - p.went).toNat (after p.told p.ov)).1 ∧ (tt p.period.toNat p.ov q p.period.toNat (after (d.told + 1) p.ov)).2 = (tt p.period.toNat p.ov m.toNat (p.period - p.went).toNat (after p.told p.ov)).2) := by
            have h := HT.out
            have e := HE.out.1
            rw [tt_one (by omega), after_next] at h
            refine Lib.hid ?_
            rw [HE.out.2.1]
            simpa using h
          have hk1 : d.went + 1 ≤ 4294967296 := by omega
          clear hl
          by_cases ho : d.ov = 0
          · have b2 : decide (0 < d.ov) = false := by simp [ho]
            have HX : Hid (after d.told d.ov = 0) := by unfold Hid after; simp [ho]
            have HX0 : Hid (d.ov = 0) := ho
            clear ho
            go_wp2_with fail
            go_quiet (fail)
            go_wp2_with (at_builtin; refine app_own rfl (.tmp 51) (.tmp 53) 29 rfl w.heap.size 3 (.int .i64 0) 1 8 under29 info3 rfl (by decide) u5 acc.length (ints .i64 acc) rfl (own_keep HOw.out (S := Own.One g) (by repeat (with_reducible first | exact Keep.refl _ _ | apply Keep.set1 | apply Keep.drewN | apply Keep.drew | apply Keep.alloc)) (fun i hi => by unfold Own.One at hi; omega)) (some ⟨wr.heap.size, 0, none⟩) 1 1 [.int .i64 0] rfl rfl (fun h => by cases h) (Row.blk (Blk.at_ (by simp)) (fun i v hv => by simpa using hv)) (by simp [Value.oneCell']) (by unfold maxLen; omega) (by omega) (Nat.le_trans HK.out.size (by simp)) ?_; intro v' w2 hown2 hgr2; have hne : u5.ownBlock ≠ some g := fun e => (by have := own_block HOw.out g e; omega); have HI2 : Hid (IsRp w2 g { d with went := d.went + 1 }) := Lib.hid (Blk.grown (Blk.cast (by repeat (first | (with_reducible first | apply Blk.set | apply Blk.drewN | apply Blk.drew | apply Blk.alloc) | exact HI.out)) (by simp [Rp.cells, HE.out.2.2])) hgr2 hne); have HK2 : Hid (Keep (Own.One g) w w2) := Lib.hid (Keep.grown (HK.out.trans (S' := Own.One g) (by repeat (with_reducible first | exact Keep.refl _ _ | apply Keep.set1 | apply Keep.drewN | apply Keep.drew | apply Keep.alloc)) (fun i hi => .inl hi)) hgr2 (fun k hk => .inr (own_block HOw.out k hk))); have HO2 : Hid (w2.ownsRow w.heap.size 3 1 v' (acc ++ [0]).length (ints .i64 (acc ++ [0]))) := (by rw [ints_append, List.length_append]; exact hown2); obtain ⟨d0, d1, d2, d3, d4, q0, q1, q2, q3, q4⟩ := IsRp.facts HI2.out; clear hown2 hgr2 hne c0 c1 c2 c3 c4 f0 f1 f2 f3 f4)
            go_roundg (q + 1)
            case measure => rw [HM.out]; omega
            case rel =>
              have hX := HX.out
              exact ⟨q, { d with went := 0, told := d.told + 1 }, acc ++ [0], by omega, rfl, by go_num, own_keep HO2.out (S := Own.One g) (by repeat (with_reducible first | exact Keep.refl _ _ | apply Keep.set1 | apply Keep.drewN | apply Keep.drew)) (fun i hi => by unfold Own.One at hi; omega), HE.out.1, HE.out.2.1, HE.out.2.2, by obtain ⟨r1, r2, r3, r4, r5, r6, r7⟩ := HOK.out; exact ⟨r1, r2, r3, by simp only; omega, by simp only; omega, by simp only; omega, by simp only; omega⟩, by
                apply Blk.cast
                · repeat (first | (with_reducible first | apply Blk.set | apply Blk.drewN | apply Blk.drew) | exact HI2.out)
                · simp [Rp.cells], HK2.out.trans (S' := Own.One g) (by repeat (with_reducible first | exact Keep.refl _ _ | apply Keep.set1 | apply Keep.drewN | apply Keep.drew)) (fun i hi => .inl hi), by simp only [List.length_append, List.length_cons, List.length_nil]; omega, by
                have h := HT2.out
                rw [hX] at h
                refine Lib.hid ?_
                simpa using h⟩
          · have o2 : 2 ≤ d.ov := by have := HC3.out; unfold Cnt at this; omega
            have o3 : d.ov ≤ 240 := by have := HC3.out; unfold Cnt at this; omega
            have b2 : decide (0 < d.ov) = true := by simp; omega
            have HX : Hid (after d.told d.ov = d.told % d.ov + 1) := by unfold Hid after; simp [ho]
            have m2 := Int.emod_nonneg d.told (b := d.ov) (by omega)
            have m3 := Int.emod_lt_of_pos d.told (b := d.ov) (by omega)
            clear ho
            go_wp2_with fail
            go_quiet (fail)
            go_wp2_with fail
            go_quiet (fail)
            go_wp2_with (at_builtin; refine app_own rfl (.tmp 51) (.tmp 53) 29 rfl w.heap.size 3 (.int .i64 0) 1 8 under29 info3 rfl (by decide) u5 acc.length (ints .i64 acc) rfl (own_keep HOw.out (S := Own.One g) (by repeat (with_reducible first | exact Keep.refl _ _ | apply Keep.set1 | apply Keep.drewN | apply Keep.drew | apply Keep.alloc)) (fun i hi => by unfold Own.One at hi; omega)) (some ⟨wr.heap.size, 0, none⟩) 1 1 [.int .i64 (d.told % d.ov + 1)] rfl rfl (fun h => by cases h) (Row.blk (Blk.at_ (by simp)) (fun i v hv => by simpa using hv)) (by simp [Value.oneCell']) (by unfold maxLen; omega) (by omega) (Nat.le_trans HK.out.size (by simp)) ?_; intro v' w2 hown2 hgr2; have hne : u5.ownBlock ≠ some g := fun e => (by have := own_block HOw.out g e; omega); have HI2 : Hid (IsRp w2 g { d with went := d.went + 1 }) := Lib.hid (Blk.grown (Blk.cast (by repeat (first | (with_reducible first | apply Blk.set | apply Blk.drewN | apply Blk.drew | apply Blk.alloc) | exact HI.out)) (by simp [Rp.cells, HE.out.2.2])) hgr2 hne); have HK2 : Hid (Keep (Own.One g) w w2) := Lib.hid (Keep.grown (HK.out.trans (S' := Own.One g) (by repeat (with_reducible first | exact Keep.refl _ _ | apply Keep.set1 | apply Keep.drewN | apply Keep.drew | apply Keep.alloc)) (fun i hi => .inl hi)) hgr2 (fun k hk => .inr (own_block HOw.out k hk))); have HO2 : Hid (w2.ownsRow w.heap.size 3 1 v' (acc ++ [(d.told % d.ov + 1)]).length (ints .i64 (acc ++ [(d.told % d.ov + 1)]))) := (by rw [ints_append, List.length_append]; exact hown2); obtain ⟨d0, d1, d2, d3, d4, q0, q1, q2, q3, q4⟩ := IsRp.facts HI2.out; clear hown2 hgr2 hne c0 c1 c2 c3 c4 f0 f1 f2 f3 f4)
            go_roundg (q + 1)
            case measure => rw [HM.out]; omega
            case rel =>
              have hX := HX.out
              exact ⟨q, { d with went := 0, told := d.told + 1 }, acc ++ [(d.told % d.ov + 1)], by omega, rfl, by go_num, own_keep HO2.out (S := Own.One g) (by repeat (with_reducible first | exact Keep.refl _ _ | apply Keep.set1 | apply Keep.drewN | apply Keep.drew)) (fun i hi => by unfold Own.One at hi; omega), HE.out.1, HE.out.2.1, HE.out.2.2, by obtain ⟨r1, r2, r3, r4, r5, r6, r7⟩ := HOK.out; exact ⟨r1, r2, r3, by simp only; omega, by simp only; omega, by simp only; omega, by simp only; omega⟩, by
                apply Blk.cast
                · repeat (first | (with_reducible first | apply Blk.set | apply Blk.drewN | apply Blk.drew) | exact HI2.out)
                · simp [Rp.cells], HK2.out.trans (S' := Own.One g) (by repeat (with_reducible first | exact Keep.refl _ _ | apply Keep.set1 | apply Keep.drewN | apply Keep.drew)) (fun i hi => .inl hi), by simp only [List.length_append, List.length_cons, List.length_nil]; omega, by
                have h := HT2.out
                rw [hX] at h
                refine Lib.hid ?_
                simpa using h⟩
        · have b1 : (d.went + 1 == d.period) = false := by simp [hl]
          have hl2 : d.went + 1 < d.period := by omega
          have HT2 : Hid (acc ++ (tt p.period.toNat p.ov q (p.period - (d.went + 1)).toNat (after d.told p.ov)).1 = (tt p.period.toNat p.ov m.toNat (p.period - p.went).toNat (after p.told p.ov)).1 ∧ (tt p.period.toNat p.ov q (p.period - (d.went + 1)).toNat (after d.told p.ov)).2 = (tt p.period.toNat p.ov m.toNat (p.period - p.went).toNat (after p.told p.ov)).2) := by
            have h := HT.out
            have e := HE.out.1
            rw [tt_two (by omega), show (p.period - d.went).toNat - 1 = (p.period - (d.went + 1)).toNat by omega] at h
            exact h
          clear hl
          go_wp2_with fail
          go_quiet (fail)
          go_wp2_with fail
          go_roundg (q + 1)
          case measure => rw [HM.out]; omega
          case rel => exact ⟨q, { d with went := d.went + 1 }, acc, by omega, rfl, by go_num, own_keep HOw.out (S := Own.One g) (by
            repeat (with_reducible first | exact Keep.refl _ _ | apply Keep.set1 | apply Keep.drewN | apply Keep.drew | apply Keep.alloc)
            ) (fun i hi => by unfold Own.One at hi; omega), HE.out.1, HE.out.2.1, HE.out.2.2, by obtain ⟨r1, r2, r3, r4, r5, r6, r7⟩ := HOK.out; exact ⟨r1, r2, r3, by simp only; omega, by simp only; omega, r6, by simp only; omega⟩, by
              apply Blk.cast
              · repeat (first | (with_reducible first | apply Blk.set | apply Blk.drewN | apply Blk.drew) | exact HI.out)
              · simp [Rp.cells, HE.out.2.2], HK.out.trans (S' := Own.One g) (by
            repeat (with_reducible first | exact Keep.refl _ _ | apply Keep.set1 | apply Keep.drewN | apply Keep.drew | apply Keep.alloc)
            ) (fun i hi => .inl hi), by omega, HT2.out⟩
end Go.Proofs.Ytmaajpkkdpaeeaa.Sync
