/- EmcyHistory: the walk of the law's function. -/
import Derived.Test.YtagklcmkdjgblaaEmcyO
namespace Go.Proofs.Ytagklcmkdjgblaa.Emcy
open Go.RowKit Go.Proofs.Ytagklcmkdjgblaa.Own
theorem raise_hist (t : Tl) (x : Tr) : ((t.raise x).1 = false ∧ (t.raise x).2.hist = t.hist) ∨ ((t.raise x).1 = true ∧ (t.raise x).2.hist = (x :: t.hist).take t.most.toNat) := by
  unfold Tl.raise
  split
  · exact .inl ⟨rfl, rfl⟩
  · exact .inr ⟨rfl, rfl⟩
theorem clear_hist (t : Tl) (c : Int) : (t.clear c).2.hist = t.hist := by
  unfold Tl.clear
  split <;> rfl
theorem take_take_cons (x : Tr) (l : List Tr) (n : Nat) : (x :: l.take n).take n = (x :: l).take n := by
  cases n with
  | zero => rfl
  | succ n => simp only [List.take_succ_cons, List.take_take]; congr 2; omega
theorem Trs.take {w : World} {A : Option Addr} {l : List Tr} (h : Trs w A l) (n : Nat) : Trs w A (l.take n) := fun i v hv => h i v (by
  rw [← flat_take, List.getElem?_take] at hv
  split at hv
  · exact hv
  · cases hv)
theorem own_one {w : World} {h : Nat} {x : Tr} (hb : Blk w h x.cells.toArray 33) : w.ownsRow 0 33 7 (.slice (some ⟨h, 0, none⟩) 1 1) 1 x.cells :=
  ⟨rfl, .inr ⟨h, 1, _, rfl, Nat.zero_le _, hb, Nat.le_refl _, by unfold maxLen; omega, rfl, rfl⟩⟩
set_option maxRecDepth 100000 in
set_option maxHeartbeats 8000000 in
theorem history_walk (hi : Int) (i0 : 0 ≤ hi) (i1 : hi ≤ 255) (A : Option Addr) (ca : Nat) (l : List Tr) (w : World) (hA : Trs w A l) (hl : l.length ≤ 17592186044000) (hwf : ∀ x ∈ l, x.wf) :
    Calls Try.prog 5 #[.int .u8 hi, .slice A l.length ca] w fun e w' => e = .returned (.bool true) ∧ Keep Zero w w' := by
  have HA := Lib.hid hA
  have HWF := Lib.hid hwf
  obtain ⟨n, hn⟩ : ∃ n, n = l.length := ⟨_, rfl⟩
  have HN := Lib.hid hn
  rw [← hn]
  rw [← hn] at hl
  obtain ⟨K, hK⟩ : ∃ K : Nat, (K : Int) = 1 + hi % 254 := ⟨(1 + hi % 254).toNat, by omega⟩
  have hK0 : 1 ≤ K := by omega
  have hK1 : K ≤ 254 := by omega
  have hm : hi.tmod 254 = (K : Int) - 1 := by rw [Int.tmod_eq_emod_of_nonneg i0]; omega
  have hm2 : hi % 254 = (K : Int) - 1 := by omega
  have hm3 : 1 + ((K : Int) - 1) = (K : Int) := by omega
  clear hA hwf hn hK
  go_enter Try.func5, Try.ntmps5
  go_wp2_with fail
  clear hm hm2 hm3
  refine (New_x w (Keep.refl _ _) K 0 (by omega) (by omega) (by decide)).mono ?_
  rintro e w1 ⟨g, rfl, hp⟩
  have HL1 := Lib.hid (hp.out.1.keep ((Keep.refl Zero w1).alloc (.cells #[] 33)))
  clear hp
  go_wp2_with fail
  go_loopg [8, 9] n (fun k s8 s9 wr => ∃ (j : Nat) (R : Addr) (c : Nat) (rs : List Tr) (t : Tl) (F : Nat → Prop), j ≤ n ∧ k = n - j ∧ s9 = .int .i64 j ∧ s8 = .slice (some R) rs.length c ∧ rs.length ≤ c ∧ rs.length ≤ j ∧ Trs wr (some R) rs ∧ (rs ≠ [] → F R.block) ∧ LivX w wr g t F ∧ (∀ k, F k → w.heap.size ≤ k) ∧ Ok K 0 j t ∧ t.hist = rs.take K)
  case atStart => exact ⟨0, _, 0, [], _, Zero, Nat.zero_le _, rfl, rfl, rfl, Nat.le_refl _, Nat.le_refl _, Row.nil _ _, fun h => absurd rfl h, HL1.out, fun k hk => hk.elim, Ok.new K 0 (by omega) (by omega) (by decide) (by decide), by simp⟩
  case round =>
    obtain ⟨j, R, c, rs, t, F, hj, hk, rfl, rfl, hrc, hrj, hrs, hrf, hL, hF, hO, hh⟩ := hrel
    have HL := Lib.hid hL
    have HO := Lib.hid hO
    have HM := Lib.hid hk
    have HRs := Lib.hid hrs
    have HRf := Lib.hid hrf
    have HFw := Lib.hid hF
    have HH := Lib.hid hh
    have HRc := Lib.hid hrc
    clear HL1 hL hO hk hrs hrf hF hh
    obtain ⟨m, hm⟩ : ∃ m, m = rs.length := ⟨_, rfl⟩
    have HMm := Lib.hid hm
    rw [← hm] at hrj hrc ⊢
    clear hm
    by_cases hlt : j < n
    · have h1 : (j : Int) < (n : Int) := by omega
      have h0 : (0 : Int) ≤ (j : Int) := by omega
      obtain ⟨x, hx⟩ : ∃ x, l[j]? = some x := ⟨l[j]'(by rw [← HN.out]; exact hlt), List.getElem?_eq_getElem _⟩
      obtain ⟨b1, o1, rfl, lb1, x0, x1, x2, x3, x4, x5, x6⟩ := Trs.pick (Row.keep HA.out (HL.out.old) (fun _ _ _ => id)) hx
      have HX := Lib.hid (HWF.out x (List.mem_of_getElem? hx))
      have HXe := Lib.hid hx
      clear hx
      go_wp2_with fail
      refine (Raise_x HL.out HO.out (by omega) x HX.out).mono ?_
      rintro e w2 ⟨rfl, hp⟩
      obtain ⟨t2, ht2⟩ : ∃ t2, t2 = (t.raise x).2 := ⟨_, rfl⟩
      obtain ⟨b, hb⟩ : ∃ b, b = (t.raise x).1 := ⟨_, rfl⟩
      have HL2 : Hid (LivX w w2 g t2 F) := Lib.hid (by rw [ht2]; exact hp.out.1)
      have HO2 : Hid (Ok K 0 (j + 1) t2) := Lib.hid (by rw [ht2]; exact HO.out.raise HX.out)
      have HRs2 : Hid (Trs w2 (some R) rs) := Lib.hid (Trs.far HRs.out hp.out.2 (fun hn a ha => by cases ha; exact HRf.out hn))
      have HH2 : Hid ((b = false ∧ t2.hist = rs.take K) ∨ (b = true ∧ t2.hist = (x :: rs).take K)) := Lib.hid (by
        rw [hb, ht2]
        rcases raise_hist t x with h | h
        · exact .inl ⟨h.1, h.2.trans HH.out⟩
        · refine .inr ⟨h.1, h.2.trans ?_⟩
          rw [HH.out, HO.out.most, Int.toNat_natCast, take_take_cons])
      rw [← hb]
      clear hp x0 x1 x2 x3 x4 x5 x6 ht2 hb HL HO HRs HH
      have hxw := HX.out
      unfold Tr.wf at hxw
      have c0 := hxw.1
      have c1 := hxw.2.1
      clear hxw
      obtain ⟨b1', o1', e', lb1', x0, x1, x2, x3, x4, x5, x6⟩ := Trs.pick (Row.keep HA.out (HL2.out.old) (fun _ _ _ => id)) HXe.out
      cases e'
      go_upto_if 37 with fail
      go_cut [8] (fun s8 wx => ∃ (R : Addr) (c : Nat) (rs : List Tr) (F : Nat → Prop), s8 = .slice (some R) rs.length c ∧ rs.length ≤ c ∧ rs.length ≤ j + 1 ∧ Trs wx (some R) rs ∧ (rs ≠ [] → F R.block) ∧ LivX w wx g t2 F ∧ (∀ k, F k → w.heap.size ≤ k) ∧ t2.hist = rs.take K)
      case first =>
        cases b with
        | false =>
          have hf : Hid (t2.hist = rs.take K) := Lib.hid (HH2.out.elim (fun h => h.2) (fun h => by cases h.1))
          go_wp2_with fail
          go_meet
          exact ⟨R, c, rs, F, by rw [HMm.out], HRc.out, by rw [← HMm.out]; omega, HRs2.out, HRf.out, HL2.out, HFw.out, hf.out⟩
        | true =>
          have hf : Hid (t2.hist = (x :: rs).take K) := Lib.hid (HH2.out.elim (fun h => by cases h.1) (fun h => h.2))
          have HNl : Hid ((flat rs).length = m * 7) := Lib.hid (by rw [flat_length, HMm.out])
          go_wp2_with (at_builtin; refine appF rfl (.tmp 42) (.tmp 43) 22 rfl 33 trZ 7 8 under22 info33 rfl (by decide) (.slice (some ⟨w2.heap.size, 0, none⟩) 1 1) 1 x.cells rfl (own_one (Blk.new w2 x.cells.toArray 33)) R m c (flat rs) rfl HNl.out (Row.keep HRs2.out ((Keep.refl Zero w2).alloc (.cells x.cells.toArray 33)) (fun _ _ _ => id)) (flat_one_cell rs) (by unfold maxLen; omega) (by omega) ?_; intro v6 w6 hown6 hgr6 hfr6)
          obtain ⟨A6, c6, rfl⟩ := own_slice hown6
          have hlen : (x :: rs).length = 1 + m := by rw [List.length_cons, HMm.out]; omega
          obtain ⟨a6, rfl⟩ : ∃ a, A6 = some a := by
            rcases A6 with _ | a
            · have := (own_le hown6).2.2 rfl
              omega
            · exact ⟨a, rfl⟩
          have hk6 : Keep Zero w2 w6 := ⟨hgr6.os, hgr6.tape, hgr6.output, Nat.le_trans (by simp) hgr6.size, fun k hk _ => (hgr6.block k (by simp; omega) (fun e => by simp [Value.ownBlock] at e; omega)).trans (((Keep.refl Zero w2).alloc (.cells x.cells.toArray 33)).block k hk id)⟩
          have hrow6 : Trs w6 (some a6) (x :: rs) := by
            obtain ⟨A', c', hv, hr, _⟩ := Row.own hown6
            simp only [Value.slice.injEq, true_and] at hv
            obtain ⟨rfl, _⟩ := hv
            exact hr
          have ha6 := (own_addr hown6 a6 rfl).2
          have hn6 : w2.heap.size ≤ a6.block := by
            rcases hfr6 a6.block rfl with h | h
            · simp [Value.ownBlock] at h
              omega
            · simp at h
              omega
          have hfin : ∃ (R : Addr) (c : Nat) (rs : List Tr) (F : Nat → Prop), (Value.slice (some a6) (1 + m) c6 : Value) = .slice (some R) rs.length c ∧ rs.length ≤ c ∧ rs.length ≤ j + 1 ∧ Trs w6 (some R) rs ∧ (rs ≠ [] → F R.block) ∧ LivX w w6 g t2 F ∧ (∀ k, F k → w.heap.size ≤ k) ∧ t2.hist = rs.take K :=
            ⟨a6, c6, x :: rs, _, by rw [hlen], by rw [hlen]; exact (own_le hown6).1, by rw [hlen]; omega, hrow6, fun _ => .inr ⟨hn6, ha6⟩, LivX.other HL2.out (hk6.mono (fun i hi => hi.elim)) HFw.out, fun k hk => hk.elim (HFw.out k) (fun h => Nat.le_trans HL2.out.old.size h.1), hf.out⟩
          have HFin := Lib.hid hfin
          clear hown6 hgr6 hfr6 hk6 hrow6 ha6 hn6 hlen hfin
          go_wp2_with fail
          go_meet
          exact HFin.out
      case rest =>
        clear HL2 HRs2 HH2 HRf HFw HMm HRc x0 x1 x2 x3 x4 x5 x6
        obtain ⟨R, c, rs, F, rfl, hrc, hrj, hrs, hrf, hL, hF, hh⟩ := hcut
        have HL := Lib.hid hL
        have HRs := Lib.hid hrs
        have HRf := Lib.hid hrf
        have HFw := Lib.hid hF
        have HH := Lib.hid hh
        have HRc := Lib.hid hrc
        have HRj := Lib.hid hrj
        obtain ⟨m, hm⟩ : ∃ m, m = rs.length := ⟨_, rfl⟩
        have HMm := Lib.hid hm
        rw [← hm] at hrj hrc ⊢
        obtain ⟨b1', o1', e', lb1', x0, x1, x2, x3, x4, x5, x6⟩ := Trs.pick (Row.keep HA.out (hL.old) (fun _ _ _ => id)) HXe.out
        cases e'
        clear hL hrs hrf hF hh hm
        obtain ⟨q, hq⟩ : ∃ q, q = j % 3 := ⟨_, rfl⟩
        have hq1 : (j : Int) % 3 = (q : Int) := by omega
        have hq2 : (j : Int).tmod 3 = (q : Int) := by rw [Int.tmod_eq_emod_of_nonneg (by omega)]; exact hq1
        clear hq
        by_cases hq0 : q = 0
        · have hqb : ((q : Int) == 0) = true := by simp [hq0]
          subst hq0
          go_wp2_with fail
          refine (Clear_x HL.out HO2.out (by omega) x.code c0 c1).mono ?_
          rintro e w7 ⟨rfl, hp⟩
          have HL7 := Lib.hid hp.out.1
          have HR7 := Lib.hid (Trs.far HRs.out hp.out.2 (fun hn a ha => by cases ha; exact HRf.out hn))
          have HH7 : Hid ((t2.clear x.code).2.hist = rs.take K) := Lib.hid (by rw [clear_hist]; exact HH.out)
          clear hp
          go_wp2_with fail
          go_roundg (n - (j + 1))
          case measure => rw [HM.out]; omega
          case rel => exact ⟨j + 1, R, c, rs, (t2.clear x.code).2, F, by omega, rfl, by go_num, by rw [HMm.out], HRc.out, HRj.out, HR7.out, HRf.out, HL7.out, HFw.out, HO2.out.clear _, HH7.out⟩
        · have hqb : ((q : Int) == 0) = false := by simp; omega
          clear hq0
          go_wp2_with fail
          go_roundg (n - (j + 1))
          case measure => rw [HM.out]; omega
          case rel => exact ⟨j + 1, R, c, rs, t2, F, by omega, rfl, by go_num, by rw [HMm.out], HRc.out, HRj.out, HRs.out, HRf.out, HL.out, HFw.out, HO2.out, HH.out⟩
    · have h1 : ¬ (j : Int) < (n : Int) := by omega
      by_cases hKm : K < m
      · have hk1 : (K : Int) < (m : Int) := by omega
        have hk2 : (K : Int) ≤ (c : Int) := by omega
        have HT : Hid (Trs wr (some R) (rs.take K)) := Lib.hid (Trs.take HRs.out K)
        have HTl : Hid ((rs.take K).length = K) := Lib.hid (by rw [List.length_take, ← HMm.out]; omega)
        go_wp2_with fail
        refine (History_l HL.out.liv HO.out).mono ?_
        rintro e w7 ⟨A7, c7, rfl, hp⟩
        have HP := Lib.hid hp.out
        rw [HH.out, HTl.out]
        clear hp
        go_wp2_with fail
        refine (same_true (l := rs.take K) (by have h := HP.out.1; rw [HH.out] at h; exact h) (Row.keep HT.out HP.out.2.1 (fun _ _ _ => id)) HTl.out.symm (by omega)).mono ?_
        rintro e w8 ⟨rfl, hk8⟩
        have HK8 := Lib.hid ((HL.out.old.trans HP.out.2.1 (fun i hi => hi.elim)).trans hk8 (fun i hi => hi.elim))
        clear hk8
        go_wp2_with ((with_reducible refine (lives_any _).mono ?_); rintro e w' ⟨rfl, hk⟩)
        go_ret
        rename_i hk
        exact ⟨rfl, HK8.out.trans hk.out (fun i hi => hi.elim)⟩
      · have hk1 : ¬ (K : Int) < (m : Int) := by omega
        have HTl : Hid (rs.take K = rs) := Lib.hid (List.take_of_length_le (by rw [← HMm.out]; omega))
        go_wp2_with fail
        refine (History_l HL.out.liv HO.out).mono ?_
        rintro e w7 ⟨A7, c7, rfl, hp⟩
        have HP := Lib.hid hp.out
        rw [HH.out, HTl.out, ← HMm.out]
        clear hp
        go_wp2_with fail
        refine (same_true (l := rs) (by have h := HP.out.1; rw [HH.out, HTl.out] at h; exact h) (Row.keep HRs.out HP.out.2.1 (fun _ _ _ => id)) HMm.out (by omega)).mono ?_
        rintro e w8 ⟨rfl, hk8⟩
        have HK8 := Lib.hid ((HL.out.old.trans HP.out.2.1 (fun i hi => hi.elim)).trans hk8 (fun i hi => hi.elim))
        clear hk8
        go_wp2_with ((with_reducible refine (lives_any _).mono ?_); rintro e w' ⟨rfl, hk⟩)
        go_ret
        rename_i hk
        exact ⟨rfl, HK8.out.trans hk.out (fun i hi => hi.elim)⟩
end Go.Proofs.Ytagklcmkdjgblaa.Emcy
