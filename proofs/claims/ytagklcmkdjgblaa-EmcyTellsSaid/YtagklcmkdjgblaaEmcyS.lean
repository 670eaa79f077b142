/- What the document's Frame comes to. -/
import Derived.Test.YtagklcmkdjgblaaEmcyR
namespace Go.Proofs.Ytagklcmkdjgblaa.Emcy
open Go.RowKit Go.Proofs.Ytagklcmkdjgblaa.Own
set_option maxHeartbeats 2000000 in
theorem DFrame_none {w : World} {D : Nat → Prop} {d : Nat} {t : Tl} (h : IsD w D d t) (hq : 0 < t.quiet ∨ (0 ≤ t.quiet ∧ t.fr = [])) :
    Calls Try.prog 21 #[.pointer (some ⟨d, 0, none⟩)] w (DPost w D d (.tuple #[Fr.zero.v, .bool false]) t) := by
  obtain ⟨An, cn, Ah, ch, Af, cf, h⟩ := h
  have c2 : ∀ o, (w.alloc o).cell? ⟨d, 2, none⟩ = _ := fun o => (h.blk.alloc o).cell 2
  have c5 : ∀ o, (w.alloc o).cell? ⟨d, 5, none⟩ = _ := fun o => (h.blk.alloc o).cell 5
  have c2w := h.blk.cell 2
  have c5w := h.blk.cell 5
  have glt := h.blk.lt
  have H := Lib.hid h
  have HFin : Hid (∀ w', Keep Zero w w' → DPost w D d (.tuple #[Fr.zero.v, .bool false]) t (.returned (.tuple #[Fr.zero.v, .bool false])) w') := Lib.hid (fun w' k => ⟨rfl, IsD.more ⟨_, _, _, _, _, _, H.out.old k⟩ (fun i hi => .inl hi), k.mono (fun i hi => hi.elim)⟩)
  by_cases hp : 0 < t.quiet
  · clear hq h
    go_enter Try.func21, Try.ntmps21
    go_wp2_with fail
    have HB : Hid (Blk (w.alloc (.cells #[.int .u8 0, .int .u8 0, .int .u8 0, .int .u8 0, .int .u8 0, .int .u8 0, .int .u8 0, .int .u8 0] 35)) w.heap.size #[.int .u8 0, .int .u8 0, .int .u8 0, .int .u8 0, .int .u8 0, .int .u8 0, .int .u8 0, .int .u8 0] 35) := Lib.hid (Blk.new _ _ _)
    exact bodyPost_ret (results_fr (p := 2) (u := 3) rfl _ _ w.heap.size Fr.zero rfl HB.out (.bool false) rfl) rfl (HFin.out _ ((Keep.refl Zero w).alloc _))
  · obtain ⟨q0, hf⟩ : 0 ≤ t.quiet ∧ t.fr = [] := hq.resolve_left hp
    have hl : t.fr.length = 0 := by rw [hf]; rfl
    have c5' : ∀ o, (w.alloc o).cell? ⟨d, 5, none⟩ = some (.slice Af 0 cf) := fun o => by rw [c5 o]; simp [hl]
    have c5'' : w.cell? ⟨d, 5, none⟩ = some (.slice Af 0 cf) := by rw [c5w]; simp [hl]
    have b1 : decide (0 < t.quiet) = false := decide_eq_false hp
    clear hq h hf hl c5 c5w hp
    go_enter Try.func21, Try.ntmps21
    go_wp2_with fail
    have HB : Hid (Blk (w.alloc (.cells #[.int .u8 0, .int .u8 0, .int .u8 0, .int .u8 0, .int .u8 0, .int .u8 0, .int .u8 0, .int .u8 0] 35)) w.heap.size #[.int .u8 0, .int .u8 0, .int .u8 0, .int .u8 0, .int .u8 0, .int .u8 0, .int .u8 0, .int .u8 0] 35) := Lib.hid (Blk.new _ _ _)
    exact bodyPost_ret (results_fr (p := 2) (u := 3) rfl _ _ w.heap.size Fr.zero rfl HB.out (.bool false) rfl) rfl (HFin.out _ ((Keep.refl Zero w).alloc _))
set_option maxHeartbeats 4000000 in
theorem DFrame_some {w : World} {D : Nat → Prop} {d : Nat} {t : Tl} (h : IsD w D d t) (hdw : ∀ k, D k → k < w.heap.size) (hq : t.quiet = 0) (f : Fr) (r : List Fr) (hf : t.fr = f :: r) (hl : t.fr.length ≤ 1000000000000000) :
    Calls Try.prog 21 #[.pointer (some ⟨d, 0, none⟩)] w (DPost w D d (.tuple #[f.v, .bool true]) { t with fr := r, quiet := t.inhibit }) := by
  obtain ⟨An, cn, Ah, ch, Af, cf, h⟩ := h
  obtain ⟨n, hn⟩ : ∃ n, n = t.fr.length := ⟨_, rfl⟩
  have hn2 : n = r.length + 1 := by rw [hn, hf]; rfl
  have hrow : Row w Af (f.cells ++ flatF r) := by have := h.fr; rw [hf] at this; exact this
  obtain ⟨b, o, rfl, blt, rc0⟩ := hrow 0 (.int .u8 f.b0) rfl
  have hnb : ¬ b = d := (h.df (by rw [hf]; simp) _ rfl).2
  have hq0 : w.cell? ⟨d, 2, none⟩ = some (.int .u64 0) := by rw [← hq]; exact h.blk.cell 2
  have c1 : w.cell? ⟨d, 1, none⟩ = some (.int .u64 t.inhibit) := h.blk.cell 1
  have c5 : w.cell? ⟨d, 5, none⟩ = some (.slice (some ⟨b, o, none⟩) n cf) := by rw [hn]; exact h.blk.cell 5
  have f2 := h.blk.frozen 2
  have f5 := h.blk.frozen 5
  have glt := h.blk.lt
  have rc : ∀ j v, f.cells[j]? = some v → w.cell? ⟨b, o + j, none⟩ = some v := fun j v hv => by
    obtain ⟨b', o', e, _, hc⟩ := hrow j v (by rw [List.getElem?_append_left (List.getElem?_eq_some_iff.1 hv).1]; exact hv)
    cases e
    exact hc
  have r0 := rc 0 _ rfl
  have r1 := rc 1 _ rfl
  have r2 := rc 2 _ rfl
  have r3 := rc 3 _ rfl
  have r4 := rc 4 _ rfl
  have r5 := rc 5 _ rfl
  have r6 := rc 6 _ rfl
  have r7 := rc 7 _ rfl
  simp only [Nat.add_zero] at r0
  have hcf : n ≤ cf := by rw [hn]; exact h.fc
  have hnz : ¬ n = 0 := by omega
  have hnbb : ((n : Int) == 0) = false := by simp; omega
  have hnp : 0 < n := by omega
  have hnl : n ≤ 1000000000000000 := by rw [hn]; exact hl
  have hn1 : (1 : Int) ≤ (n : Int) := by omega
  have hw1 : IntKind.i64.wrap 1 = 1 := by decide
  have H := Lib.hid h
  have HDw : Hid (∀ i, D i → i ≠ w.heap.size ∧ i ≠ w.heap.size + 1) := Lib.hid (fun i hi => by have := hdw i hi; omega)
  have HN := Lib.hid hn
  have HN2 := Lib.hid hn2
  have HF := Lib.hid hf
  have HRow := Lib.hid hrow
  have HK2 : Hid (Keep Zero w ((w.alloc (.cells Fr.zero.cells.toArray 35)).alloc (.cells f.cells.toArray 35))) := Lib.hid (((Keep.refl Zero w).alloc _).alloc _)
  clear h hn hn2 hf hrow rc hq hl rc0 hdw
  have hgn : ¬ d = w.heap.size := by omega
  have hgn1 : ¬ d = w.heap.size + 1 := by omega
  have hgn2 : ¬ w.heap.size = d := by omega
  have hgn3 : ¬ w.heap.size + 1 = d := by omega
  have HTail : ∀ A, (if cf = 1 then A = (⟨b, o, none⟩ : Addr) else A = ⟨b, o + 8, none⟩) → Row w (some A) (flatF r) := fun A hA i v hv => by
    by_cases h1 : cf = 1
    · have : r = [] := List.eq_nil_of_length_eq_zero (by have := HN2.out; omega)
      rw [this] at hv
      simp [flatF] at hv
    · rw [if_neg h1] at hA
      subst hA
      obtain ⟨b', o', e, hb, hc⟩ := HRow.out (8 + i) v (by rw [List.getElem?_append_right (by rw [Fr.cells_length]; omega), Fr.cells_length, show 8 + i - 8 = i by omega]; exact hv)
      cases e
      exact ⟨b, o + 8, rfl, hb, by rw [Nat.add_assoc]; exact hc⟩
  have HTl := Lib.hid HTail
  clear HTail
  by_cases hc1 : cf = 1
  · subst hc1
    go_enter Try.func21, Try.ntmps21
    go_wp2_with fail
    go_region
    all_goals
      go_wp2_with fail
      have hp5 := H.out.put5 (D' := D) (w1 := w) (A := some ⟨b, o, none⟩) (c := 0) (l := r) (Keep.refl Zero w) (HTl.out ⟨b, o, none⟩ (by simp)) (by have := HN2.out; omega) (Nat.zero_le _) (fun h => by cases h) (fun i h => h) (fun hr a ha => by
        cases ha
        exact H.out.df (by rw [HF.out]; simp) ⟨b, o, none⟩ rfl)
      have hp2 := (hp5.set2 t.inhibit).old (((Keep.refl Zero _).alloc (.cells #[.int .u8 f.b0, .int .u8 f.b1, .int .u8 f.b2, .int .u8 f.b3, .int .u8 f.b4, .int .u8 f.b5, .int .u8 f.b6, .int .u8 f.b7] 35)).alloc (.cells #[.int .u8 f.b0, .int .u8 f.b1, .int .u8 f.b2, .int .u8 f.b3, .int .u8 f.b4, .int .u8 f.b5, .int .u8 f.b6, .int .u8 f.b7] 35)).drew
      have hk : Keep (Own.One d) w (((((w.setCell ⟨d, 5, none⟩ (.slice (some ⟨b, o, none⟩) r.length (0))).setCell ⟨d, 2, none⟩ (.int .u64 t.inhibit)).alloc (.cells #[.int .u8 f.b0, .int .u8 f.b1, .int .u8 f.b2, .int .u8 f.b3, .int .u8 f.b4, .int .u8 f.b5, .int .u8 f.b6, .int .u8 f.b7] 35)).alloc (.cells #[.int .u8 f.b0, .int .u8 f.b1, .int .u8 f.b2, .int .u8 f.b3, .int .u8 f.b4, .int .u8 f.b5, .int .u8 f.b6, .int .u8 f.b7] 35)).drew) := (((((Keep.refl _ w).set1 _ _).set1 _ _).alloc _).alloc _).drew
      have hb : Blk (((((w.setCell ⟨d, 5, none⟩ (.slice (some ⟨b, o, none⟩) r.length (0))).setCell ⟨d, 2, none⟩ (.int .u64 t.inhibit)).alloc (.cells #[.int .u8 f.b0, .int .u8 f.b1, .int .u8 f.b2, .int .u8 f.b3, .int .u8 f.b4, .int .u8 f.b5, .int .u8 f.b6, .int .u8 f.b7] 35)).alloc (.cells #[.int .u8 f.b0, .int .u8 f.b1, .int .u8 f.b2, .int .u8 f.b3, .int .u8 f.b4, .int .u8 f.b5, .int .u8 f.b6, .int .u8 f.b7] 35)).drew) w.heap.size f.cells.toArray 35 := Blk.drew (Blk.alloc (Blk.at_ (by simp)) _)
      have hr0 : r.length = 0 := by have := HN2.out; omega
      rw [hr0] at hp2 hk hb
      exact bodyPost_ret (results_fr (p := 2) (u := 3) rfl _ _ w.heap.size f rfl hb (.bool true) rfl) rfl ⟨rfl, IsD.more ⟨_, _, _, _, _, _, hp2⟩ (fun i hi => .inl hi), hk⟩
  · go_enter Try.func21, Try.ntmps21
    go_wp2_with fail
    go_region
    all_goals
      go_wp2_with fail
      have hnr : n - 1 = r.length := by have := HN2.out; omega
      have hp5 := H.out.put5 (D' := D) (w1 := w) (A := some ⟨b, o + 8, none⟩) (c := cf - 1) (l := r) (Keep.refl Zero w) (HTl.out ⟨b, o + 8, none⟩ (by simp [hc1])) (by have := HN2.out; omega) (Nat.le_trans (by omega) H.out.mx.2.2) (fun h => by cases h) (fun i h => h) (fun hr a ha => by
        cases ha
        exact H.out.df (by rw [HF.out]; simp) ⟨b, o, none⟩ rfl)
      have hp2 := (hp5.set2 t.inhibit).old (((Keep.refl Zero _).alloc (.cells #[.int .u8 f.b0, .int .u8 f.b1, .int .u8 f.b2, .int .u8 f.b3, .int .u8 f.b4, .int .u8 f.b5, .int .u8 f.b6, .int .u8 f.b7] 35)).alloc (.cells #[.int .u8 f.b0, .int .u8 f.b1, .int .u8 f.b2, .int .u8 f.b3, .int .u8 f.b4, .int .u8 f.b5, .int .u8 f.b6, .int .u8 f.b7] 35)).drew
      rw [hnr]
      have hk : Keep (Own.One d) w (((((w.setCell ⟨d, 5, none⟩ (.slice (some ⟨b, o + 8, none⟩) r.length (cf - 1))).setCell ⟨d, 2, none⟩ (.int .u64 t.inhibit)).alloc (.cells #[.int .u8 f.b0, .int .u8 f.b1, .int .u8 f.b2, .int .u8 f.b3, .int .u8 f.b4, .int .u8 f.b5, .int .u8 f.b6, .int .u8 f.b7] 35)).alloc (.cells #[.int .u8 f.b0, .int .u8 f.b1, .int .u8 f.b2, .int .u8 f.b3, .int .u8 f.b4, .int .u8 f.b5, .int .u8 f.b6, .int .u8 f.b7] 35)).drew) := (((((Keep.refl _ w).set1 _ _).set1 _ _).alloc _).alloc _).drew
      have hb : Blk (((((w.setCell ⟨d, 5, none⟩ (.slice (some ⟨b, o + 8, none⟩) r.length (cf - 1))).setCell ⟨d, 2, none⟩ (.int .u64 t.inhibit)).alloc (.cells #[.int .u8 f.b0, .int .u8 f.b1, .int .u8 f.b2, .int .u8 f.b3, .int .u8 f.b4, .int .u8 f.b5, .int .u8 f.b6, .int .u8 f.b7] 35)).alloc (.cells #[.int .u8 f.b0, .int .u8 f.b1, .int .u8 f.b2, .int .u8 f.b3, .int .u8 f.b4, .int .u8 f.b5, .int .u8 f.b6, .int .u8 f.b7] 35)).drew) w.heap.size f.cells.toArray 35 := Blk.drew (Blk.alloc (Blk.at_ (by simp)) _)
      exact bodyPost_ret (results_fr (p := 2) (u := 3) rfl _ _ w.heap.size f rfl hb (.bool true) rfl) rfl ⟨rfl, IsD.more ⟨_, _, _, _, _, _, hp2⟩ (fun i hi => .inl hi), hk⟩
end Go.Proofs.Ytagklcmkdjgblaa.Emcy
