/- Frame: what is told. -/
import Derived.Test.YtagklcmkdjgblaaEmcyG
import Derived.Deep.DeepCutAuto
namespace Go.Proofs.Ytagklcmkdjgblaa.Emcy
open Go.RowKit Go.Proofs.Ytagklcmkdjgblaa.Own
theorem results_fr {fn : Func} {p u : Tmp} (h : fn.results = #[.cell p 35, .tmp u]) (tmps : Array Value) (w : World) (b : Nat) (f : Fr) (hp : tmps.getD p undef = .pointer (some ⟨b, 0, none⟩))
    (hb : Blk w b f.cells.toArray 35) (vu : Value) (hu : tmps.getD u undef = vu) :
    (results fn tmps).run Try.prog w = .ok (.tuple #[f.v, vu]) w := by
  subst hu
  have z0 := hb.cell 0
  have z1 := hb.cell 1
  have z2 := hb.cell 2
  have z3 := hb.cell 3
  have z4 := hb.cell 4
  have z5 := hb.cell 5
  have z6 := hb.cell 6
  have z7 := hb.cell 7
  unfold Fr.cells at z0 z1 z2 z3 z4 z5 z6 z7
  simp only [List.getElem?_toArray, List.getElem?_cons_zero, List.getElem?_cons_succ] at z0 z1 z2 z3 z4 z5 z6 z7
  rw [results_cell_tmp h, hp]
  simp [go_sem, z0, z1, z2, z3, z4, z5, z6, z7, Fr.v]
theorem keep8 {S : Nat → Prop} {w w1 : World} {b : Nat} (h : Keep S w w1) (hb : S b ∨ w.heap.size ≤ b) (v0 v1 v2 v3 v4 v5 v6 v7 : Value) :
    Keep S w ((((((((w1.setCell ⟨b, 0, none⟩ v0).setCell ⟨b, 1, none⟩ v1).setCell ⟨b, 2, none⟩ v2).setCell ⟨b, 3, none⟩ v3).setCell ⟨b, 4, none⟩ v4).setCell ⟨b, 5, none⟩ v5).setCell ⟨b, 6, none⟩ v6).setCell ⟨b, 7, none⟩ v7) :=
  (((((((h.set hb v0).set hb v1).set hb v2).set hb v3).set hb v4).set hb v5).set hb v6).set hb v7
theorem blk8 {w : World} {b : Nat} {u0 u1 u2 u3 u4 u5 u6 u7 : Value} {T : TypeId} (h : Blk w b #[u0, u1, u2, u3, u4, u5, u6, u7] T) (v0 v1 v2 v3 v4 v5 v6 v7 : Value) :
    Blk ((((((((w.setCell ⟨b, 0, none⟩ v0).setCell ⟨b, 1, none⟩ v1).setCell ⟨b, 2, none⟩ v2).setCell ⟨b, 3, none⟩ v3).setCell ⟨b, 4, none⟩ v4).setCell ⟨b, 5, none⟩ v5).setCell ⟨b, 6, none⟩ v6).setCell ⟨b, 7, none⟩ v7) b #[v0, v1, v2, v3, v4, v5, v6, v7] T :=
  ((((((((h.set 0 v0).set 1 v1).set 2 v2).set 3 v3).set 4 v4).set 5 v5).set 6 v6).set 7 v7).cast (by simp)
def FrPost (w : World) (S : Nat → Prop) (g : Nat) (t' : Tl) (f : Fr) (b : Bool) (e : Ending) (w' : World) : Prop := e = .returned (.tuple #[f.v, .bool b]) ∧ Hid (IsT w' (More S w w') g t' ∧ Keep S w w')
theorem IsT.more {w : World} {S S' : Nat → Prop} {g : Nat} {t : Tl} (h : IsT w S g t) (hs : ∀ i, S i → S' i) : IsT w S' g t := by
  obtain ⟨_, _, _, _, _, _, h⟩ := h
  exact ⟨_, _, _, _, _, _, h.more hs⟩
set_option maxHeartbeats 2000000 in
theorem Frame_none {w : World} {S : Nat → Prop} {g : Nat} {t : Tl} (h : IsT w S g t) (hq : 0 < t.quiet ∨ (0 ≤ t.quiet ∧ t.fr = [])) :
    Calls Try.prog 10 #[.pointer (some ⟨g, 0, none⟩)] w (FrPost w S g t Fr.zero false) := by
  obtain ⟨An, cn, Ah, ch, Af, cf, h⟩ := h
  have c2 : ∀ o, (w.alloc o).cell? ⟨g, 2, none⟩ = _ := fun o => (h.blk.alloc o).cell 2
  have c5 : ∀ o, (w.alloc o).cell? ⟨g, 5, none⟩ = _ := fun o => (h.blk.alloc o).cell 5
  have c2w := h.blk.cell 2
  have c5w := h.blk.cell 5
  have glt := h.blk.lt
  have H := Lib.hid h
  have HFin : Hid (∀ w', Keep Zero w w' → FrPost w S g t Fr.zero false (.returned (.tuple #[Fr.zero.v, .bool false])) w') := Lib.hid (fun w' k => ⟨rfl, IsT.more ⟨_, _, _, _, _, _, H.out.old k⟩ (fun i hi => .inl hi), k.mono (fun i hi => hi.elim)⟩)
  by_cases hp : 0 < t.quiet
  · clear hq h
    go_enter Try.func10, Try.ntmps10
    go_wp2_with fail
    have HB : Hid (Blk (w.alloc (.cells #[.int .u8 0, .int .u8 0, .int .u8 0, .int .u8 0, .int .u8 0, .int .u8 0, .int .u8 0, .int .u8 0] 35)) w.heap.size #[.int .u8 0, .int .u8 0, .int .u8 0, .int .u8 0, .int .u8 0, .int .u8 0, .int .u8 0, .int .u8 0] 35) := Lib.hid (Blk.new _ _ _)
    exact bodyPost_ret (results_fr (p := 2) (u := 3) rfl _ _ w.heap.size Fr.zero rfl HB.out (.bool false) rfl) rfl (HFin.out _ ((Keep.refl Zero w).alloc _))
  · obtain ⟨q0, hf⟩ : 0 ≤ t.quiet ∧ t.fr = [] := hq.resolve_left hp
    have hl : t.fr.length = 0 := by rw [hf]; rfl
    have c5' : ∀ o, (w.alloc o).cell? ⟨g, 5, none⟩ = some (.slice Af 0 cf) := fun o => by rw [c5 o]; simp [hl]
    have c5'' : w.cell? ⟨g, 5, none⟩ = some (.slice Af 0 cf) := by rw [c5w]; simp [hl]
    have b1 : decide (0 < t.quiet) = false := decide_eq_false hp
    clear hq h hf hl c5 c5w hp
    go_enter Try.func10, Try.ntmps10
    go_wp2_with fail
    have HB : Hid (Blk (w.alloc (.cells #[.int .u8 0, .int .u8 0, .int .u8 0, .int .u8 0, .int .u8 0, .int .u8 0, .int .u8 0, .int .u8 0] 35)) w.heap.size #[.int .u8 0, .int .u8 0, .int .u8 0, .int .u8 0, .int .u8 0, .int .u8 0, .int .u8 0, .int .u8 0] 35) := Lib.hid (Blk.new _ _ _)
    exact bodyPost_ret (results_fr (p := 2) (u := 3) rfl _ _ w.heap.size Fr.zero rfl HB.out (.bool false) rfl) rfl (HFin.out _ ((Keep.refl Zero w).alloc _))
theorem Delete28_first {w : World} (b cap : Nat) (f : Fr) (r : List Fr) (n : Nat) (hn : n = (f :: r).length) (h : w.ownsRow 0 35 8 (.slice (some ⟨b, 0, none⟩) n cap) n (flatF (f :: r))) (hn2 : n ≤ 1000000000000000) :
    Calls Try.prog 28 #[.slice (some ⟨b, 0, none⟩) n cap, .int .i64 0, .int .i64 1] w fun e w' => e = .returned (.slice (some ⟨b, 0, none⟩) r.length cap) ∧ Hid (w'.ownsRow 0 35 8 (.slice (some ⟨b, 0, none⟩) r.length cap) r.length (flatF r) ∧ Keep (Own.One b) w w') := by
  subst hn
  have h1 := Delete28_any b cap (flatF (f :: r)) (f :: r).length 0 (by simp) h (flatF_one_cell _) hn2
  refine h1.mono ?_
  rintro e w' ⟨rfl, ho, hk⟩
  refine ⟨by simp, ?_, hk⟩
  have e1 : (flatF (f :: r)).take (0 * 8) ++ (flatF (f :: r)).drop ((0 + 1) * 8) = flatF r := by
    rw [Nat.zero_mul, List.take_zero, List.nil_append, flatF_cons, List.drop_append, List.drop_of_length_le (by rw [Fr.cells_length]; omega), Fr.cells_length]
    rfl
  rw [e1] at ho
  simpa using ho
set_option maxHeartbeats 4000000 in
theorem Frame_some {w : World} {S : Nat → Prop} {g : Nat} {t : Tl} (h : IsT w S g t) (hsw : ∀ k, S k → k < w.heap.size) (hq : t.quiet = 0) (f : Fr) (r : List Fr) (hf : t.fr = f :: r) (hl : t.fr.length ≤ 1000000000000000) :
    Calls Try.prog 10 #[.pointer (some ⟨g, 0, none⟩)] w (FrPost w S g { t with fr := r, quiet := t.inhibit } f true) := by
  obtain ⟨An, cn, Ah, ch, Af, cf, h⟩ := h
  obtain ⟨n, hn⟩ : ∃ n, n = t.fr.length := ⟨_, rfl⟩
  have hn2 : n = (f :: r).length := by rw [hn, hf]
  obtain ⟨b, rfl⟩ : ∃ b, Af = some ⟨b, 0, none⟩ := by
    rcases Af with _ | a
    · have := (own_le h.fr).2.2 rfl
      rw [hf] at this
      simp at this
    · have := (own_addr h.fr a rfl).1
      exact ⟨a.block, congrArg some this⟩
  have hq0 : w.cell? ⟨g, 2, none⟩ = some (.int .u64 0) := by rw [← hq]; exact h.blk.cell 2
  have c1 : w.cell? ⟨g, 1, none⟩ = some (.int .u64 t.inhibit) := h.blk.cell 1
  have c5 : w.cell? ⟨g, 5, none⟩ = some (.slice (some ⟨b, 0, none⟩) n cf) := by rw [hn]; exact h.blk.cell 5
  have glt := h.blk.lt
  have hrow : Row w (some ⟨b, 0, none⟩) (f.cells ++ flatF r) := by have := own_rowF h.fr; rw [hf] at this; exact this
  have blt : b < w.heap.size := (own_addr h.fr _ rfl).2
  have rc : ∀ j v, f.cells[j]? = some v → w.cell? ⟨b, 0 + j, none⟩ = some v := fun j v hv => by
    obtain ⟨b', o', e, _, hc⟩ := hrow j v (by rw [List.getElem?_append_left (List.getElem?_eq_some_iff.1 hv).1]; exact hv)
    cases e
    exact hc
  have r0 := rc 0 _ rfl
  have r1 := rc 1 _ rfl
  have r2 := rc 2 _ rfl
  have r3 := rc 3 _ rfl
  have r4 := rc 4 _ rfl
  have r5 := rc 5 _ rfl
  have r6 := rc 6 _ rfl
  have r7 := rc 7 _ rfl
  simp only [Nat.zero_add] at r0 r1 r2 r3 r4 r5 r6 r7
  have hnb : ¬ n = 0 := by rw [hn2]; simp
  have hnbb : ((n : Int) == 0) = false := by simp; omega
  have hnp : 0 < n := by omega
  have hnl : n ≤ 1000000000000000 := by rw [hn]; exact hl
  have H := Lib.hid h
  have HSw : Hid (∀ i, S i → i ≠ w.heap.size) := Lib.hid (fun i hi => by have := hsw i hi; omega)
  have HN := Lib.hid hn
  have HN2 := Lib.hid hn2
  have HF := Lib.hid hf
  have HFR : Hid (w.ownsRow 0 35 8 (.slice (some ⟨b, 0, none⟩) n cf) n (flatF (f :: r))) := Lib.hid (by have := h.fr; rw [← hn, hf] at this; exact this)
  clear h hn hn2 hf hrow rc hq hl hsw
  go_enter Try.func10, Try.ntmps10
  go_wp2_with fail
  refine (Delete28_first b cf f r n HN2.out (HFR.out.alloc _ |>.alloc _) hnl).mono ?_
  rintro e w3 ⟨rfl, hp⟩
  have HP := Lib.hid hp.out
  clear hp
  have HBg : Hid (Blk w3 g #[.int .i64 t.most, .int .u64 t.inhibit, .int .u64 t.quiet, .slice An t.now.length cn, .slice Ah t.hist.length ch, .slice (some ⟨b, 0, none⟩) t.fr.length cf] 55) := Lib.hid (Blk.keep ((H.out.blk.alloc _).alloc _) HP.out.2 (fun e => (H.out.sf _ rfl).2.1 (e : g = b).symm))
  have d1 : w3.cell? ⟨g, 1, none⟩ = some (.int .u64 t.inhibit) := HBg.out.cell 1
  have d2 : w3.cell? ⟨g, 2, none⟩ = some (.int .u64 t.quiet) := HBg.out.cell 2
  have d5 : w3.cell? ⟨g, 5, none⟩ = some (.slice (some ⟨b, 0, none⟩) t.fr.length cf) := HBg.out.cell 5
  have e2 := HBg.out.frozen 2
  have e5 := HBg.out.frozen 5
  have HBr : Hid (Blk w3 w.heap.size Fr.zero.cells.toArray 35) := Lib.hid (Blk.keep (Blk.alloc (Blk.new w _ _) _) HP.out.2 (fun e => by have e' : w.heap.size = b := e; omega))
  have HBf : Hid (Blk w3 (w.heap.size + 1) f.cells.toArray 35) := Lib.hid (Blk.keep (Blk.at_ (by simp)) HP.out.2 (fun e => by have e' : w.heap.size + 1 = b := e; omega))
  have k0 : w3.cell? ⟨w.heap.size + 1, 0, none⟩ = some (.int .u8 f.b0) := HBf.out.cell 0
  have k1 : w3.cell? ⟨w.heap.size + 1, 1, none⟩ = some (.int .u8 f.b1) := HBf.out.cell 1
  have k2 : w3.cell? ⟨w.heap.size + 1, 2, none⟩ = some (.int .u8 f.b2) := HBf.out.cell 2
  have k3 : w3.cell? ⟨w.heap.size + 1, 3, none⟩ = some (.int .u8 f.b3) := HBf.out.cell 3
  have k4 : w3.cell? ⟨w.heap.size + 1, 4, none⟩ = some (.int .u8 f.b4) := HBf.out.cell 4
  have k5 : w3.cell? ⟨w.heap.size + 1, 5, none⟩ = some (.int .u8 f.b5) := HBf.out.cell 5
  have k6 : w3.cell? ⟨w.heap.size + 1, 6, none⟩ = some (.int .u8 f.b6) := HBf.out.cell 6
  have k7 : w3.cell? ⟨w.heap.size + 1, 7, none⟩ = some (.int .u8 f.b7) := HBf.out.cell 7
  have m0 : w3.cell? ⟨w.heap.size, 0, none⟩ = some (.int .u8 0) := HBr.out.cell 0
  have m1 : w3.cell? ⟨w.heap.size, 1, none⟩ = some (.int .u8 0) := HBr.out.cell 1
  have m2 : w3.cell? ⟨w.heap.size, 2, none⟩ = some (.int .u8 0) := HBr.out.cell 2
  have m3 : w3.cell? ⟨w.heap.size, 3, none⟩ = some (.int .u8 0) := HBr.out.cell 3
  have m4 : w3.cell? ⟨w.heap.size, 4, none⟩ = some (.int .u8 0) := HBr.out.cell 4
  have m5 : w3.cell? ⟨w.heap.size, 5, none⟩ = some (.int .u8 0) := HBr.out.cell 5
  have m6 : w3.cell? ⟨w.heap.size, 6, none⟩ = some (.int .u8 0) := HBr.out.cell 6
  have m7 : w3.cell? ⟨w.heap.size, 7, none⟩ = some (.int .u8 0) := HBr.out.cell 7
  have n0 := HBr.out.frozen 0
  have n1 := HBr.out.frozen 1
  have n2 := HBr.out.frozen 2
  have n3 := HBr.out.frozen 3
  have n4 := HBr.out.frozen 4
  have n5 := HBr.out.frozen 5
  have n6 := HBr.out.frozen 6
  have n7 := HBr.out.frozen 7
  have hgn : ¬ g = w.heap.size := by omega
  have hgn1 : ¬ g = w.heap.size + 1 := by omega
  have hgn2 : ¬ w.heap.size = g := by omega
  have hgn3 : ¬ w.heap.size + 1 = g := by omega
  go_wp2_with fail
  have HK3 : Hid (Keep (Own.One b) w w3) := Lib.hid (Keep.trans (((Keep.refl (Own.One b) w).alloc _).alloc _) HP.out.2 (fun i hi => .inl hi))
  have HT3 := Lib.hid (IsTv.put5 (S' := S) (A := some ⟨b, 0, none⟩) (c := cf) (l := r) H.out (by rw [show (Value.slice (some (⟨b, 0, none⟩ : Addr)) t.fr.length cf).ownBlock = some b from rfl]; exact grown_of_keep HK3.out) HP.out.1 (fun k hk => .inl (by simpa [Value.ownBlock] using hk)) (fun _ h => h) (fun a ha hl => by cases ha; exact absurd blt (Nat.not_lt.2 hl)))
  have HT4 := Lib.hid (HT3.out.set2 t.inhibit)
  have hB2 := blk8 ((HBr.out.far (p := ⟨g, 5, none⟩) hgn (.slice (some ⟨b, 0, none⟩) r.length cf)).far (p := ⟨g, 2, none⟩) hgn (.int .u64 t.inhibit)) (.int .u8 f.b0) (.int .u8 f.b1) (.int .u8 f.b2) (.int .u8 f.b3) (.int .u8 f.b4) (.int .u8 f.b5) (.int .u8 f.b6) (.int .u8 f.b7)
  have hK2 := keep8 (((HK3.out.mono (S' := S) (fun i hi => by have e : i = b := hi; rw [e]; exact (H.out.sf _ rfl).1)).set (p := ⟨g, 5, none⟩) (.inl H.out.sg) (.slice (some ⟨b, 0, none⟩) r.length cf)).set (p := ⟨g, 2, none⟩) (.inl H.out.sg) (.int .u64 t.inhibit)) (b := w.heap.size) (.inr (Nat.le_refl w.heap.size)) (.int .u8 f.b0) (.int .u8 f.b1) (.int .u8 f.b2) (.int .u8 f.b3) (.int .u8 f.b4) (.int .u8 f.b5) (.int .u8 f.b6) (.int .u8 f.b7)
  have hK3 := keep8 ((Keep.refl (Own.One w.heap.size) ((w3.setCell ⟨g, 5, none⟩ (.slice (some ⟨b, 0, none⟩) r.length cf)).setCell ⟨g, 2, none⟩ (.int .u64 t.inhibit)))) (b := w.heap.size) (.inl rfl) (.int .u8 f.b0) (.int .u8 f.b1) (.int .u8 f.b2) (.int .u8 f.b3) (.int .u8 f.b4) (.int .u8 f.b5) (.int .u8 f.b6) (.int .u8 f.b7)
  have HT5 := Lib.hid (HT4.out.keep hK3 (fun i hi e => HSw.out i hi e))
  exact bodyPost_ret (results_fr (p := 2) (u := 3) rfl _ _ w.heap.size f rfl hB2 (.bool true) rfl) rfl ⟨rfl, IsT.more ⟨_, _, _, _, _, _, HT5.out⟩ (fun i hi => .inl hi), hK2⟩
end Go.Proofs.Ytagklcmkdjgblaa.Emcy
