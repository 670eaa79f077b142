/- tells: a frame waits. -/
import Derived.Test.YtagklcmkdjgblaaEmcyH
namespace Go.Proofs.Ytagklcmkdjgblaa.Emcy
open Go.RowKit Go.Proofs.Ytagklcmkdjgblaa.Own
structure Ex where
  x0 : Int
  x1 : Int
  x2 : Int
  x3 : Int
  x4 : Int
def Ex.v (x : Ex) : Value := .agg #[.int .u8 x.x0, .int .u8 x.x1, .int .u8 x.x2, .int .u8 x.x3, .int .u8 x.x4]
def Ex.cells (x : Ex) : List Value := [.int .u8 x.x0, .int .u8 x.x1, .int .u8 x.x2, .int .u8 x.x3, .int .u8 x.x4]
def frameF (code : Int) (r : Int) (x : Ex) : Fr := ⟨code % 256, code / 256, r, x.x0, x.x1, x.x2, x.x3, x.x4⟩
def Tl.tells (t : Tl) (code : Int) (x : Ex) : Tl := { t with fr := if t.fr.length < 16 then t.fr ++ [frameF code (regF t.now) x] else t.fr }
def UnitPost (w : World) (S : Nat → Prop) (g : Nat) (t' : Tl) (e : Ending) (w' : World) : Prop := e = .returned (.tuple #[]) ∧ Hid (IsT w' (More S w w') g t' ∧ Keep S w w')
theorem under23 : Try.prog.underlying 23 = some (.slice 5) := by kernel_rfl
set_option maxHeartbeats 4000000 in
theorem tells_any {w : World} {S : Nat → Prop} {g : Nat} {t : Tl} (h : IsT w S g t) (hsw : ∀ k, S k → k < w.heap.size) (hw : ∀ x ∈ t.now, x.wf) (hl : t.now.length ≤ 1000000000000000) (hf : t.fr.length ≤ 16) (c : Int) (c0 : 0 ≤ c) (c1 : c ≤ 65535) (x : Ex) :
    Calls Try.prog 26 #[.pointer (some ⟨g, 0, none⟩), .int .u16 c, x.v] w (UnitPost w S g (t.tells c x)) := by
  obtain ⟨An, cn, Ah, ch, Af, cf, h⟩ := h
  obtain ⟨n, hn⟩ : ∃ n, n = t.fr.length := ⟨_, rfl⟩
  have hgc : w.cell? ⟨g, 5, none⟩ = some (.slice Af n cf) := by rw [hn]; exact h.blk.cell 5
  have glt := h.blk.lt
  have H := Lib.hid h
  have HW := Lib.hid hw
  have HN := Lib.hid hn
  have HSw := Lib.hid hsw
  rw [← hn] at hf
  unfold Ex.v
  by_cases hn16 : n < 16
  · have HE : Hid (t.tells c x = { t with fr := t.fr ++ [frameF c (regF t.now) x] }) := Lib.hid (by unfold Tl.tells; rw [← hn, if_pos hn16])
    rw [HE.out]
    have hi16 : (n : Int) < 16 := by omega
    clear h hw hn hn16 hsw
    go_enter Try.func26, Try.ntmps26
    go_wp2_with fail
    refine (register_any (S := S) (t := t) ⟨_, _, _, _, _, _, H.out.old ((Keep.refl Zero w).alloc _)⟩ HW.out hl).mono ?_
    rintro e w2 ⟨rfl, hk⟩
    have HK2 := Lib.hid hk
    obtain ⟨r, hr⟩ : ∃ r, r = regF t.now := ⟨_, rfl⟩
    have HR := Lib.hid hr
    have hrr := regF_range HW.out
    rw [← hr] at hrr ⊢
    have r0 := hrr.1
    have r1 := hrr.2
    clear hr hrr hk
    go_wp2_with fail
    obtain ⟨X, hX⟩ : ∃ X, X = (w2.alloc (.cells #[.int .u8 (c % 256), .int .u8 (c / 256), .int .u8 r, .int .u8 0, .int .u8 0, .int .u8 0, .int .u8 0, .int .u8 0] 35)) := ⟨_, rfl⟩
    obtain ⟨q, hq⟩ : ∃ q, q = w2.heap.size := ⟨_, rfl⟩
    have hwq : w.heap.size < q := by have := HK2.out.size; simp at this; omega
    have HKX : Hid (Keep Zero w X) := Lib.hid (by rw [hX]; exact ((((Keep.refl Zero w).alloc _).trans HK2.out (fun i hi => hi.elim)).alloc _))
    have HBq : Hid (Blk X q #[.int .u8 (c % 256), .int .u8 (c / 256), .int .u8 r, .int .u8 0, .int .u8 0, .int .u8 0, .int .u8 0, .int .u8 0] 35) := Lib.hid (by rw [hX, hq]; exact Blk.new _ _ _)
    have HBx : Hid (Blk X w.heap.size x.cells.toArray 31) := Lib.hid (by rw [hX]; exact Blk.alloc (Blk.keep (Blk.new w _ _) HK2.out id) _)
    have hcp : ∀ ty, (Builtin.copy_ #[23, 23] ty #[.slice (some ⟨q, 3, none⟩) 5 5, .slice (some ⟨w.heap.size, 0, none⟩) 5 5]).run Try.prog X.drew = .ok (goInt (Nat.min 5 5)) (X.drew.setRow q (over [.int .u8 (c % 256), .int .u8 (c / 256), .int .u8 r, .int .u8 0, .int .u8 0, .int .u8 0, .int .u8 0, .int .u8 0] 3 x.cells).toArray) := fun ty =>
      run_copy_el 23 ty 5 1 under23 (by kernel_rfl) q 3 5 5 ⟨w.heap.size, 0, none⟩ 5 5 #[.int .u8 (c % 256), .int .u8 (c / 256), .int .u8 r, .int .u8 0, .int .u8 0, .int .u8 0, .int .u8 0, .int .u8 0] 35 x.cells HBq.out.drew rfl (Row.blk HBx.out.drew (fun i v hi => by simpa using hi)) (by simp [Ex.cells]) (by
        intro v hv
        simp only [Ex.cells, List.mem_cons, List.not_mem_nil, or_false] at hv
        rcases hv with rfl | rfl | rfl | rfl | rfl <;> rfl)
    obtain ⟨Y, hY⟩ : ∃ Y, Y = X.drew.setRow q (over [.int .u8 (c % 256), .int .u8 (c / 256), .int .u8 r, .int .u8 0, .int .u8 0, .int .u8 0, .int .u8 0, .int .u8 0] 3 x.cells).toArray := ⟨_, rfl⟩
    rw [← hY] at hcp
    obtain ⟨f, hff⟩ : ∃ f, f = frameF c r x := ⟨_, rfl⟩
    have HFf := Lib.hid hff
    have HBf : Hid (Blk Y q f.cells.toArray 35) := Lib.hid (by rw [hY, hff]; exact setRow_blk HBq.out.drew _)
    have HKY : Hid (Keep Zero w Y) := Lib.hid (by rw [hY]; exact (HKX.out.drew).trans (setRow_keep _ _ _) (fun k hk => .inr (by have e : k = q := hk; omega)))
    have HTY := Lib.hid (H.out.old HKY.out)
    have y5 : Y.cell? ⟨g, 5, none⟩ = some (.slice Af n cf) := by rw [HN.out]; exact HTY.out.blk.cell 5
    have gY : g < Y.heap.size := HTY.out.blk.lt
    have qY : q < Y.heap.size := HBf.out.lt
    have z0 : Y.cell? ⟨q, 0, none⟩ = some (.int .u8 f.b0) := HBf.out.cell 0
    have z1 : Y.cell? ⟨q, 1, none⟩ = some (.int .u8 f.b1) := HBf.out.cell 1
    have z2 : Y.cell? ⟨q, 2, none⟩ = some (.int .u8 f.b2) := HBf.out.cell 2
    have z3 : Y.cell? ⟨q, 3, none⟩ = some (.int .u8 f.b3) := HBf.out.cell 3
    have z4 : Y.cell? ⟨q, 4, none⟩ = some (.int .u8 f.b4) := HBf.out.cell 4
    have z5 : Y.cell? ⟨q, 5, none⟩ = some (.int .u8 f.b5) := HBf.out.cell 5
    have z6 : Y.cell? ⟨q, 6, none⟩ = some (.int .u8 f.b6) := HBf.out.cell 6
    have z7 : Y.cell? ⟨q, 7, none⟩ = some (.int .u8 f.b7) := HBf.out.cell 7
    have HOY : Hid ((Y.drew.alloc (.cells f.cells.toArray 35)).ownsRow 0 35 8 (.slice Af n cf) n (flatF t.fr)) := Lib.hid (by
      rw [HN.out]
      exact own_keep2 HTY.out.fr ((Keep.refl Zero Y).drew.alloc _) (fun _ _ => id))
    have HTZ : Hid (IsTv (Y.drew.alloc (.cells f.cells.toArray 35)) S g t An cn Ah ch Af cf) := Lib.hid (HTY.out.old ((Keep.refl Zero Y).drew.alloc _))
    have HKZ : Hid (Keep Zero w (Y.drew.alloc (.cells f.cells.toArray 35))) := Lib.hid (HKY.out.drew.alloc _)
    have HX := Lib.hid hX
    have HQ := Lib.hid hq
    clear hX hq hY hff
    rw [← HX.out, ← HQ.out]
    go_region_law (refine step_copy_eq rfl (.tmp 21) (.tmp 22) 23 23 rfl _ _ (by simp [Act.eval, Act.put]) (by simp [Act.eval, Act.put]) (hcp _) ?_)
    go_wp2_with fail
    go_region_law (refine step_appF rfl (.tmp 28) (.tmp 30) 48 rfl 35 frZ 8 8 under48 info35 rfl (by decide) (.slice Af n cf) n (flatF t.fr) rfl HOY.out ⟨Y.heap.size, 0, none⟩ 1 1 f.cells rfl rfl (Row.blk (Blk.new Y.drew f.cells.toArray 35) (fun i v hi => by simpa using hi)) (fcells_one f) (by unfold maxLen; omega) (by omega) ?_; intro v6 w6 hown6 hgr6 hfr6; obtain ⟨A6, c6, rfl⟩ := own_slice hown6; have hb6 := Blk.grown HTZ.out.blk hgr6 (fun e => by obtain ⟨a, ha, e2⟩ := own_in e; exact (HTZ.out.sf a ha).2.1 e2); have y6 := hb6.cell 5; have f6 := hb6.frozen 5; have H6 := Lib.hid (And.intro hown6 (And.intro hgr6 hfr6)); clear hown6 hgr6 hfr6 hb6)
    all_goals
      have hlen : (t.fr ++ [f]).length = n + 1 := by rw [List.length_append, HN.out]; rfl
      have hp5 := HTZ.out.put5 (S' := More S w (w6.setCell ⟨g, 5, none⟩ (.slice A6 (n + 1) c6))) (w1 := w6) (A := A6) (c := c6) (l := t.fr ++ [f]) (by rw [← HN.out]; exact H6.out.2.1) (by rw [hlen, flatF_append, show flatF [f] = f.cells from by simp [flatF]]; exact H6.out.1) (by rw [hlen, ← HN.out]; exact H6.out.2.2) (fun k hk => .inl hk) (fun a ha hl => .inr ⟨by have := HKZ.out.size; omega, by
        have := (own_addr H6.out.1 a ha).2
        simpa using this⟩)
      rw [hlen] at hp5
      have HP5 := Lib.hid hp5
      have HK6 : Hid (Keep S w (w6.setCell ⟨g, 5, none⟩ (.slice A6 (n + 1) c6))) := Lib.hid (((HKZ.out.mono (fun i hi => hi.elim)).trans (keep_of_grown (S := S) H6.out.2.1 (fun k hk => by
        obtain ⟨a, ha, rfl⟩ := own_in hk
        exact (HTZ.out.sf a ha).1)) (fun i hi => .inl hi)).set (.inl H.out.sg) _)
      clear hp5 hlen
      go_wp2_with fail
      go_end0
      refine ⟨rfl, ?_, HK6.out⟩
      rw [← HR.out, ← HFf.out]
      exact ⟨_, _, _, _, _, _, HP5.out⟩
  · have HE : Hid (t.tells c x = t) := Lib.hid (by unfold Tl.tells; rw [← hn, if_neg hn16])
    rw [HE.out]
    have hi16 : ¬ (n : Int) < 16 := by omega
    clear h hw hn hn16 hsw
    go_enter Try.func26, Try.ntmps26
    go_wp2_with fail
    go_end0
    exact ⟨rfl, IsT.more ⟨_, _, _, _, _, _, H.out.old ((Keep.refl Zero w).alloc _)⟩ (fun i hi => .inl hi), (Keep.refl _ _).alloc _⟩
end Go.Proofs.Ytagklcmkdjgblaa.Emcy
