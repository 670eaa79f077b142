/- Read; lives. -/
import Derived.Test.YtagklcmkdjgblaaEmcyL
import Derived.Test.YtagklcmkdjgblaaJoins
namespace Go.Proofs.Ytagklcmkdjgblaa.Emcy
open Go.RowKit Go.Proofs.Ytagklcmkdjgblaa.Own Go.Proofs.Ytagklcmkdjgblaa.Crc
theorem arr31 (w : World) (b o cap : Nat) : (Instr.arrayAt 31 (.slice (some ⟨b, o, none⟩) 5 cap)).run Try.prog w = .ok (.pointer (some ⟨b, o, none⟩)) w :=
  run_arrayAt w 31 5 5 _ 5 cap (by kernel_rfl) (Nat.le_refl _)
theorem blk7 {w : World} {b : Nat} {u0 u1 u2 u3 u4 u5 u6 : Value} {T : TypeId} (h : Blk w b #[u0, u1, u2, u3, u4, u5, u6] T) (v0 v1 v2 v3 v4 v5 v6 : Value) :
    Blk (((((((w.setCell ⟨b, 0, none⟩ v0).setCell ⟨b, 1, none⟩ v1).setCell ⟨b, 2, none⟩ v2).setCell ⟨b, 3, none⟩ v3).setCell ⟨b, 4, none⟩ v4).setCell ⟨b, 5, none⟩ v5).setCell ⟨b, 6, none⟩ v6) b #[v0, v1, v2, v3, v4, v5, v6] T :=
  (((((((h.set 0 v0).set 1 v1).set 2 v2).set 3 v3).set 4 v4).set 5 v5).set 6 v6).cast (by simp)
theorem keep7 {S : Nat → Prop} {w w1 : World} {b : Nat} (h : Keep S w w1) (hb : S b ∨ w.heap.size ≤ b) (v0 v1 v2 v3 v4 v5 v6 : Value) :
    Keep S w (((((((w1.setCell ⟨b, 0, none⟩ v0).setCell ⟨b, 1, none⟩ v1).setCell ⟨b, 2, none⟩ v2).setCell ⟨b, 3, none⟩ v3).setCell ⟨b, 4, none⟩ v4).setCell ⟨b, 5, none⟩ v5).setCell ⟨b, 6, none⟩ v6) :=
  ((((((h.set hb v0).set hb v1).set hb v2).set hb v3).set hb v4).set hb v5).set hb v6
set_option maxHeartbeats 4000000 in
theorem Read_any (f : Fr) (h0 : 0 ≤ f.b0) (h1 : f.b0 ≤ 255) (h2 : 0 ≤ f.b1) (h3 : f.b1 ≤ 255) (w : World) :
    Calls Try.prog 13 #[f.v] w fun e w' => e = .returned (readF f).v ∧ Keep Zero w w' := by
  have ho : bits .or .u16 f.b0 (f.b1 * 256) = f.b0 + f.b1 * 256 := or_u16_8 f.b0 f.b1 h0 (by omega) h2 h3
  have hat := arr31
  have hw : IntKind.u16.wrap (f.b1 * 256) = f.b1 * 256 := by rw [IntKind.wrap_u16]; omega
  unfold Fr.v
  go_enter Try.func13, Try.ntmps13
  go_wp2_with fail
  go_region
  all_goals
    go_wp2_with fail
    exact bodyPost_ret (results_tr (p := 2) rfl _ _ (w.heap.size + 1) (readF f) rfl (Blk.drew (Blk.at_ (by simp)))) rfl ⟨rfl, (((Keep.refl _ _).alloc _).alloc _).drew⟩
def t0 : Tl := ⟨3, 0, 0, [], [], []⟩
def x0 : Tr := ⟨12816, 4, 9, 0, 0, 0, 0⟩
def f0 : Fr := ⟨16, 50, 5, 9, 0, 0, 0, 0⟩
def t1 : Tl := ⟨3, 0, 0, [x0], [x0], [f0]⟩
def t2 : Tl := ⟨3, 0, 0, [x0], [x0], []⟩
theorem regF_x0 : regF [x0] = 5 := by decide
theorem raise_x0 : t0.raise x0 = (true, t1) := by
  unfold Tl.raise Tl.tells frameF
  simp [t0, t1, x0, f0, findF, Tr.ex]
  exact regF_x0
set_option maxRecDepth 100000 in
set_option maxHeartbeats 4000000 in
theorem lives_any (w : World) : Calls Try.prog 12 #[] w fun e w' => e = .returned (.bool true) ∧ Hid (Keep Zero w w') := by
  go_enter Try.func12, Try.ntmps12
  go_wp2_with fail
  refine (New_ok 3 0 (by decide) (by decide) (by decide) _).mono ?_
  rintro e w1 ⟨g, rfl, hp⟩
  have H1 := Lib.hid hp.out.1
  have HK1 := Lib.hid hp.out.2.1
  have HG := Lib.hid hp.out.2.2
  have HS1 : Hid (∀ k, Own.One g k → k < w1.heap.size) := Lib.hid (fun k hk => by
    obtain ⟨_, _, _, _, _, _, h⟩ := H1.out
    have e : k = g := hk
    rw [e]
    exact h.blk.lt)
  clear hp
  go_wp2_with fail
  refine (Raise_any (t := t0) H1.out HS1.out (fun _ h => by cases h) (by decide) (by decide) (by decide) (by decide) (by decide) x0 (by unfold Tr.wf; decide)).mono ?_
  rintro e w2 ⟨rfl, hp⟩
  rw [raise_x0] at hp ⊢
  have H2 := Lib.hid hp.out.1
  have HK2 := Lib.hid (HK1.out.trans hp.out.2 (fun i hi => .inr (by have e : i = g := hi; have := HG.out; omega)))
  have HM2 : Hid (∀ k, More (Own.One g) w1 w2 k → w.heap.size ≤ k ∧ k < w2.heap.size) := Lib.hid (fun k hk => by
    have h1 := HK1.out.size
    have h2 := hp.out.2.size
    have h3 := HG.out
    rcases hk with hk | hk
    · have := HS1.out k hk
      have e : k = g := hk
      omega
    · omega)
  clear hp
  go_wp2_with fail
  refine (Frame_some (t := t1) H2.out (fun k hk => (HM2.out k hk).2) rfl f0 [] rfl (by decide)).mono ?_
  rintro e w3 ⟨rfl, hp⟩
  have H3 := Lib.hid hp.out.1
  have HK3 := Lib.hid (HK2.out.trans hp.out.2 (fun i hi => .inr (HM2.out i hi).1))
  clear hp
  rw [show f0.v = Value.agg #[.int .u8 16, .int .u8 50, .int .u8 5, .int .u8 9, .int .u8 0, .int .u8 0, .int .u8 0, .int .u8 0] from rfl]
  have he5 := eq35 16 50 5 9 0 0 0 0
  have he3 := eq33 12816 5 9 0 0 0 0
  go_wp2_with fail
  refine (Register_any (t := t2) (H3.out.old ((Keep.refl Zero w3).alloc _)) (fun x hx => by rw [List.mem_singleton.1 hx]; unfold Tr.wf; decide) (by decide)).mono ?_
  rintro e w4 ⟨rfl, hk⟩
  rw [show regF t2.now = 5 from regF_x0]
  have HK4 := Lib.hid ((HK3.out.alloc (.cells #[.int .u8 16, .int .u8 50, .int .u8 5, .int .u8 9, .int .u8 0, .int .u8 0, .int .u8 0, .int .u8 0] 35)).trans hk (fun i hi => hi.elim))
  have HB4 := Lib.hid (Blk.keep (Blk.new w3 #[.int .u8 16, .int .u8 50, .int .u8 5, .int .u8 9, .int .u8 0, .int .u8 0, .int .u8 0, .int .u8 0] 35) hk id)
  have z0 := HB4.out.cell 0
  have z1 := HB4.out.cell 1
  have z2 := HB4.out.cell 2
  have z3 := HB4.out.cell 3
  have z4 := HB4.out.cell 4
  have z5 := HB4.out.cell 5
  have z6 := HB4.out.cell 6
  have z7 := HB4.out.cell 7
  simp only [List.getElem?_toArray, List.getElem?_cons_zero, List.getElem?_cons_succ] at z0 z1 z2 z3 z4 z5 z6 z7
  clear hk
  go_wp2_with fail
  refine (Read_any f0 (by decide) (by decide) (by decide) (by decide) _).mono ?_
  rintro e w5 ⟨rfl, hk⟩
  rw [show (readF f0).v = Value.agg #[.int .u16 12816, .int .u8 5, .int .u8 9, .int .u8 0, .int .u8 0, .int .u8 0, .int .u8 0] from rfl]
  have HK5 := Lib.hid (HK4.out.trans hk (fun i hi => hi.elim))
  clear hk
  go_wp2_with fail
  go_ret
  exact ⟨rfl, HK5.out⟩
theorem fields33 : ∃ f0 f1 f2 : Field, (Try.prog.fieldsOf 33).toList = [f0, f1, f2] ∧ f0.type = 30 ∧ f0.offset = 0 ∧ f1.type = 5 ∧ f1.offset = 1 := by
  have hm : (Try.prog.fieldsOf 33).toList.map (fun f => (f.type, f.offset)) = [(30, 0), (5, 1), (31, 2)] := by kernel_rfl
  generalize (Try.prog.fieldsOf 33).toList = l at hm
  rcases l with _ | ⟨f0, _ | ⟨f1, _ | ⟨f2, _ | ⟨f3, l⟩⟩⟩⟩
  · simp at hm
  · simp at hm
  · simp at hm
  · simp only [List.map_cons, List.map_nil, List.cons.injEq, Prod.mk.injEq, and_true] at hm
    exact ⟨f0, f1, f2, rfl, hm.1.1, hm.1.2, hm.2.1.1, hm.2.1.2⟩
  · simp at hm
theorem field0 (w : World) (c r x0 x1 x2 x3 x4 : Int) : (Instr.field 33 (.agg #[.int .u16 c, .int .u8 r, .int .u8 x0, .int .u8 x1, .int .u8 x2, .int .u8 x3, .int .u8 x4]) 0).run Try.prog w = .ok (.int .u16 c) w := by
  obtain ⟨f0, f1, f2, hf, t0, o0, t1, o1⟩ := fields33
  have hu : Try.prog.underlying 33 = some (.struct (Try.prog.fieldsOf 33)) := by kernel_rfl
  have u30 : Try.prog.underlying 30 = some (.int .u16) := by kernel_rfl
  have h : (Try.prog.fieldsOf 33)[0]? = some f0 := by rw [← Array.getElem?_toList, hf]; rfl
  simp [Instr.field, run_underlying hu, h, t0, o0, asAgg, part, isAgg, run_underlying u30]
theorem field1 (w : World) (c r x0 x1 x2 x3 x4 : Int) : (Instr.field 33 (.agg #[.int .u16 c, .int .u8 r, .int .u8 x0, .int .u8 x1, .int .u8 x2, .int .u8 x3, .int .u8 x4]) 1).run Try.prog w = .ok (.int .u8 r) w := by
  obtain ⟨f0, f1, f2, hf, t0, o0, t1, o1⟩ := fields33
  have hu : Try.prog.underlying 33 = some (.struct (Try.prog.fieldsOf 33)) := by kernel_rfl
  have h : (Try.prog.fieldsOf 33)[1]? = some f1 := by rw [← Array.getElem?_toList, hf]; rfl
  simp [Instr.field, run_underlying hu, h, t1, o1, asAgg, part, isAgg, run_underlying under5]
end Go.Proofs.Ytagklcmkdjgblaa.Emcy
