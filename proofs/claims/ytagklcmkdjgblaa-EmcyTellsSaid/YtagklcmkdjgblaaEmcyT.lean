/- What the document's Clear comes to. -/
import Derived.Test.YtagklcmkdjgblaaEmcyS
namespace Go.Proofs.Ytagklcmkdjgblaa.Emcy
open Go.RowKit Go.Proofs.Ytagklcmkdjgblaa.Own
theorem IsD.lt {w : World} {D : Nat → Prop} {d : Nat} {t : Tl} (h : IsD w D d t) : d < w.heap.size := by
  obtain ⟨_, _, _, _, _, _, h⟩ := h
  exact h.blk.lt
def DMid (w : World) (D : Nat → Prop) (d : Nat) (t' : Tl) (wx : World) : Prop := IsD wx (More D w wx) d t' ∧ Keep (Own.One d) w wx
set_option maxRecDepth 100000 in
set_option maxHeartbeats 4000000 in
theorem DClear_any {w : World} {D : Nat → Prop} {d : Nat} {t : Tl} (h : IsD w D d t) (hw : ∀ x ∈ t.now, x.wf) (hl : t.now.length ≤ 10000000000000) (hf : t.fr.length ≤ 16) (c : Int) :
    Calls Try.prog 19 #[.pointer (some ⟨d, 0, none⟩), .int .u16 c] w (DPost w D d (.bool (t.clear c).1) (t.clear c).2) := by
  have H0 := Lib.hid h
  have HW := Lib.hid hw
  rcases findF_ge c t.now 0 with ⟨h1, -⟩ | ⟨i, x, h1, h2, -⟩
  · have HE : Hid (t.clear c = (false, t)) := Lib.hid (by unfold Tl.clear; rw [h1]; rfl)
    have HF := Lib.hid h1
    rw [HE.out]
    clear h h1 hw
    go_enter Try.func19, Try.ntmps19
    go_wp2_with fail
    refine (find_any H0.out c (by omega)).mono ?_
    rintro e w' ⟨rfl, rfl⟩
    rw [HF.out]
    go_wp2_with fail
    go_ret
    exact ⟨rfl, IsD.more H0.out (fun k hk => .inl hk), Keep.refl _ _⟩
  · rw [Nat.zero_add] at h1
    have hi : i < t.now.length := (List.getElem?_eq_some_iff.1 h2).1
    have HE : Hid (t.clear c = (true, ({ t with now := cut t.now i }).tells (headCode (cut t.now i)) Ex.zero)) := Lib.hid (by
      unfold Tl.clear
      rw [h1, if_neg (by omega), Int.toNat_natCast])
    have HF := Lib.hid h1
    rw [HE.out]
    obtain ⟨An, cn, Ah, ch, Af, cf, hv⟩ := h
    obtain ⟨b, o, rfl, lb, x0, x1, x2, x3, x4, x5, x6⟩ := Trs.pick hv.now h2
    obtain ⟨n, hn⟩ : ∃ n, n = t.now.length := ⟨_, rfl⟩
    have HN := Lib.hid hn
    have H := Lib.hid hv
    have HC : Hid ((cut t.now i).length = n - 1) := Lib.hid (by rw [cut_length hi, hn])
    rw [← hn] at hl hi
    have hlt : n ≤ 10000000000000 := hl
    have glt := hv.blk.lt
    have g3 : w.cell? ⟨d, 3, none⟩ = some (.slice (some ⟨b, o, none⟩) n cn) := by rw [hn]; exact hv.blk.cell 3
    have hnc : n ≤ cn := by rw [hn]; exact hv.nc
    obtain ⟨P, hP, hdr⟩ : ∃ P : Addr, (if cn = i + 1 then some (⟨b, o, none⟩ : Addr) else some ⟨b, o + (i + 1) * 7, none⟩) = some P ∧ Row w (some P) (flat (t.now.drop (i + 1))) := by
      by_cases h : cn = i + 1
      · refine ⟨⟨b, o, none⟩, by simp [h], ?_⟩
        rw [List.drop_of_length_le (by omega)]
        exact Row.nil _ _
      · refine ⟨⟨b, o + (i + 1) * 7, none⟩, by simp [h], fun j u hj => ?_⟩
        rw [← flat_drop, List.getElem?_drop] at hj
        obtain ⟨b', o', e, hb, hc⟩ := hv.now _ u hj
        cases e
        exact ⟨b, o + (i + 1) * 7, rfl, hb, by rw [Nat.add_assoc]; exact hc⟩
    have HDr := Lib.hid hdr
    have HTk : Hid (Row w (some ⟨b, o, none⟩) (flat (t.now.take i))) := Lib.hid (fun j v hj => hv.now j v (by
      rw [← flat_take, List.getElem?_take] at hj
      split at hj
      · exact hj
      · cases hj))
    have HTl : Hid ((flat (t.now.take i)).length = i * 7) := Lib.hid (by rw [flat_length, List.length_take]; omega)
    have HDl : Hid ((flat (t.now.drop (i + 1))).length = (n - (i + 1)) * 7) := Lib.hid (by rw [flat_length, List.length_drop, hn])
    have hic : i ≤ cn := by omega
    have hjc : i + 1 ≤ cn := by omega
    have htn : ((i : Int) + 1).toNat = i + 1 := by omega
    have hin : decide ((i : Int) < 0) = false := by simp
    have hj0 : (0 : Int) ≤ (i : Int) + 1 := by omega
    have hj1 : (i : Int) + 1 ≤ (n : Int) := by omega
    have hwi : IntKind.i64.wrap ((i : Int) + 1) = (i : Int) + 1 := by rw [IntKind.wrap_i64]; omega
    clear hv h1 h2 hw hn hdr x0 x1 x2 x3 x4 x5 x6
    go_enter Try.func19, Try.ntmps19
    go_wp2_with fail
    refine (find_any H0.out c (by rw [← HN.out]; omega)).mono ?_
    rintro e w1 ⟨rfl, rfl⟩
    rw [HF.out]
    go_upto_region 4 with fail
    go_cut [] (fun wx => DMid w D d { t with now := cut t.now i } wx)
    case first =>
      go_region_law (first | (refine step_appN rfl (.tmp 12) (.tmp 18) 22 rfl 33 trZ 7 8 under22 info33 rfl (by decide) (.slice (some ⟨w.heap.size, 0, none⟩) 0 0) 0 [] rfl (own_none 7 (Blk.at_ (by simp))) (some ⟨b, o, none⟩) i cn (flat (t.now.take i)) rfl HTl.out (fun h => by cases h) (Row.keep HTk.out (by repeat (with_reducible first | exact Keep.refl Zero _ | apply Keep.alloc | apply Keep.drewN | apply Keep.drew)) (fun _ _ _ => id)) (flat_one_cell _) (by unfold maxLen; omega) (by omega) ?_; intro v6 w6 hown6 hgr6 hfr6; simp only [Nat.zero_add, List.nil_append] at hown6; obtain ⟨A6, c6, rfl⟩ := own_slice hown6; have HK6 : Hid (Keep Zero w w6) := Lib.hid (Keep.trans (by repeat (with_reducible first | exact Keep.refl Zero _ | apply Keep.alloc | apply Keep.drewN | apply Keep.drew)) (keep_new hgr6) (fun i hi => .inr (by have e : i = w.heap.size := hi; omega))); have HO6 := Lib.hid hown6; have HF6 : Hid (∀ a, A6 = some a → w.heap.size ≤ a.block) := Lib.hid (fun a ha => (hfr6 a.block (by subst ha; rfl)).elim (fun h => by simp [Value.ownBlock] at h; omega) (fun h => by simp at h; omega)); have dk6 := HK6.out.cell (p := ⟨d, 3, none⟩) glt id; rw [g3] at dk6; clear hown6 hgr6 hfr6) | (refine step_appN rfl (.tmp 19) (.tmp 26) 22 rfl 33 trZ 7 8 under22 info33 rfl (by decide) (.slice A6 i c6) i (flat (t.now.take i)) rfl HO6.out (some P) (n - (i + 1)) (cn - (i + 1)) (flat (t.now.drop (i + 1))) rfl HDl.out (fun h => by cases h) (Row.keep HDr.out HK6.out (fun _ _ _ => id)) (flat_one_cell _) (by unfold maxLen; omega) (by omega) ?_; intro v7 w7 hown7 hgr7 hfr7; obtain ⟨A7, c7, rfl⟩ := own_slice hown7; have HK7 : Hid (Keep Zero w w7) := Lib.hid (Keep.trans HK6.out (keep_of_grown hgr7 (S := fun k => w.heap.size ≤ k) (fun k hk => by obtain ⟨a, ha, rfl⟩ := own_in hk; exact HF6.out a ha)) (fun i hi => .inr hi)); have HO7 := Lib.hid hown7; have HF7 : Hid (∀ a, A7 = some a → w.heap.size ≤ a.block) := Lib.hid (fun a ha => (hfr7 a.block (by subst ha; rfl)).elim (fun h => by obtain ⟨a', ha', e'⟩ := own_in h; rw [← e']; exact HF6.out a' ha') (fun h => by have := HK6.out.size; omega)); clear hown7 hgr7 hfr7; have hd7 := (H.out.old HK7.out).blk; have y7 := hd7.cell 3; have f7 := hd7.frozen 3; clear hd7))
      all_goals
        have hlen : (cut t.now i).length = i + (n - (i + 1)) := by rw [HC.out]; omega
        have hrow7 : Trs w7 A7 (cut t.now i) := own_trs (n := i + (n - (i + 1))) (c := c7) (by unfold cut; rw [flat_append]; exact HO7.out)
        have hp := H.out.put3 (D' := More D w (w7.setCell ⟨d, 3, none⟩ (.slice A7 (i + (n - (i + 1))) c7))) (w1 := w7) (A := A7) (c := c7) (l := cut t.now i) HK7.out hrow7 (by rw [hlen]; exact (own_le HO7.out).1) (own_le HO7.out).2.1 (fun h => ((own_le HO7.out).2.2 h).2) (fun i hi => .inl hi) (fun _ a ha => ⟨.inr ⟨HF7.out a ha, by have := (own_addr HO7.out a ha).2; simpa using this⟩, by have := HF7.out a ha; omega⟩)
        rw [hlen] at hp
        have HM : Hid (DMid w D d { t with now := cut t.now i } (w7.setCell ⟨d, 3, none⟩ (.slice A7 (i + (n - (i + 1))) c7))) := Lib.hid ⟨⟨_, _, _, _, _, _, hp⟩, (HK7.out.mono (fun i hi => hi.elim)).set1 _ _⟩
        clear hp hlen hrow7 y7 f7
        go_wp2_with fail
        go_meet
        exact HM.out
    case rest =>
      obtain ⟨w2, hw2⟩ : ∃ w2, w2 = wc := ⟨_, rfl⟩
      subst hw2
      have HM := Lib.hid hcut
      clear hcut g3
      have HW3 : Hid (∀ x ∈ cut t.now i, x.wf) := Lib.hid (fun x hx => HW.out x (cut_mem hx))
      obtain ⟨An2, cn2, Ah2, ch2, Af2, cf2, hv2⟩ := HM.out.1
      have HV2 := Lib.hid hv2
      have d2 : d < w2.heap.size := hv2.blk.lt
      have g3 : w2.cell? ⟨d, 3, none⟩ = some (.slice An2 (n - 1) cn2) := by rw [← HC.out]; exact hv2.blk.cell 3
      clear hv2
      obtain ⟨l, hll⟩ : ∃ l, l = cut t.now i := ⟨_, rfl⟩
      rw [← hll] at HC HW3 HV2
      have HL := Lib.hid hll
      clear hll
      have HMm := Lib.hid (HM.out)
      have hk2 := HM.out.2.size
      have HFn : Hid (∀ e w4, DPost w2 (More D w w2) d (.tuple #[]) (({ t with now := cut t.now i } : Tl).tells (headCode (cut t.now i)) Ex.zero) e w4 → IsD w4 (More D w w4) d (({ t with now := cut t.now i } : Tl).tells (headCode (cut t.now i)) Ex.zero) ∧ Keep (Own.One d) w w4) := Lib.hid (fun e w4 hp => ⟨IsD.more hp.2.out.1 (fun k hk => by
        rcases hk with (hk | hk) | hk
        · exact .inl hk
        · exact .inr ⟨hk.1, Nat.lt_of_lt_of_le hk.2 hp.2.out.2.size⟩
        · exact .inr ⟨Nat.le_trans hk2 hk.1, hk.2⟩), HMm.out.2.trans hp.2.out.2 (fun i hi => .inl hi)⟩)
      clear hk2 HM
      rcases l with _ | ⟨x, l⟩
      · have hn1 : n - 1 = 0 := HC.out.symm
        rw [hn1] at g3
        go_wp2_with fail
        refine (Dframe_any (w := w2) (D := More D w w2) (d := d) (t := { t with now := cut t.now i }) HMm.out.1 (by rw [← HL.out]; exact HW3.out) (by rw [← HL.out]; simp) hf 0 (by omega) (by omega) Ex.zero).mono ?_
        rintro e w4 ⟨rfl, hp⟩
        have HP := Lib.hid (HFn.out (.returned (.tuple #[])) w4 (by rw [← HL.out] at hp ⊢; exact ⟨rfl, hp⟩))
        clear hp
        go_wp2_with fail
        go_ret
        exact ⟨rfl, HP.out⟩
      · have hn1 : n - 1 = l.length + 1 := HC.out.symm
        rw [hn1] at g3
        obtain ⟨b', o', e', _, k0, k1, k2, k3, k4, k5, k6⟩ := Trs.pick (i := 0) (t := x) HV2.out.now rfl
        subst e'
        simp only [Nat.zero_mul, Nat.add_zero] at k0
        clear k1 k2 k3 k4 k5 k6
        have hxw := HW3.out x (List.mem_cons_self ..)
        unfold Tr.wf at hxw
        have x0 := hxw.1
        have x1 := hxw.2.1
        clear hxw
        go_wp2_with fail
        refine (Dframe_any (w := w2) (D := More D w w2) (d := d) (t := { t with now := cut t.now i }) HMm.out.1 (by rw [← HL.out]; exact HW3.out) (by rw [← HL.out]; simp only [List.length_cons]; omega) hf x.code x0 x1 Ex.zero).mono ?_
        rintro e w4 ⟨rfl, hp⟩
        have HP := Lib.hid (HFn.out (.returned (.tuple #[])) w4 (by rw [← HL.out] at hp ⊢; exact ⟨rfl, hp⟩))
        clear hp
        go_wp2_with fail
        go_ret
        exact ⟨rfl, HP.out⟩
end Go.Proofs.Ytagklcmkdjgblaa.Emcy
