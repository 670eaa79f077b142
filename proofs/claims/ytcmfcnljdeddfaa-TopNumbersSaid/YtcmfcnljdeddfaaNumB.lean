/- A slave's own calls: that it waits, that it is looked for, that it is given a number. -/
import Derived.Test.YtcmfcnljdeddfaaNumA
import Derived.Deep.RegionHeld3
import Derived.Deep.Cut
namespace Go.Proofs.Ytcmfcnljdeddfaa.Num
open Go.RowKit Go.Proofs.Ytcmfcnljdeddfaa.Own Go.Proofs.Ytcmfcnljdeddfaa.Crc
structure Sl where
  A : Nat → Int
  pid : Int
  uid : Int
  mode : Int
  looks : Int
def Sl.cells (s : Sl) : Array Value := #[.int .u32 (s.A 0), .int .u32 (s.A 1), .int .u32 (s.A 2), .int .u32 (s.A 3), .int .i64 s.pid, .int .i64 0, .int .i64 s.uid, .int .i64 0, .int .i64 s.mode, .int .i64 0, .int .i64 s.looks, .pointer none, .bool false]
def IsSl (w : World) (g : Nat) (s : Sl) : Prop := Blk w g s.cells 105
def Sl.wf (s : Sl) : Prop := ∀ k, 0 ≤ s.A k ∧ s.A k < 4294967296
theorem IsSl.keep {S : Nat → Prop} {w w1 : World} {g : Nat} {s : Sl} (h : IsSl w g s) (k : Keep S w w1) (hn : ¬ S g) : IsSl w1 g s := Blk.keep h k hn
theorem IsSl.facts {w : World} {g : Nat} {s : Sl} (h : IsSl w g s) : w.cell? ⟨g, 4, none⟩ = some (.int .i64 s.pid) ∧ w.cell? ⟨g, 6, none⟩ = some (.int .i64 s.uid) ∧ w.cell? ⟨g, 8, none⟩ = some (.int .i64 s.mode) ∧ w.cell? ⟨g, 10, none⟩ = some (.int .i64 s.looks) ∧
    w.frozen? ⟨g, 4, none⟩ = false ∧ w.frozen? ⟨g, 6, none⟩ = false ∧ w.frozen? ⟨g, 8, none⟩ = false ∧ w.frozen? ⟨g, 10, none⟩ = false ∧ g < w.heap.size :=
  ⟨Blk.cell h 4, Blk.cell h 6, Blk.cell h 8, Blk.cell h 10, Blk.frozen h 4, Blk.frozen h 6, Blk.frozen h 8, Blk.frozen h 10, Blk.lt h⟩
/-- It waits. -/
def Sl.wait (s : Sl) : Sl := { s with mode := 0, uid := if s.uid = 0 then s.pid else s.uid }
set_option maxHeartbeats 1000000 in
theorem switches_0 {w : World} {g : Nat} {s : Sl} (h : IsSl w g s) : Calls Try.prog 38 #[.pointer (some ⟨g, 0, none⟩), .int .u8 0] w fun e w' => e = .returned (.tuple #[]) ∧ IsSl w' g s.wait ∧ Keep (One g) w w' := by
  obtain ⟨c4, c6, c8, c10, f4, f6, f8, f10, gl⟩ := h.facts
  have H := Lib.hid h
  clear h
  by_cases hu : s.uid = 0
  · have hb : (s.uid == 0) = true := by simp [hu]
    have HU := Lib.hid hu
    clear hu
    go_enter Try.func38, Try.ntmps38
    go_wp2_with fail
    go_end0
    refine ⟨rfl, ?_, ?_⟩
    · apply Blk.cast
      · repeat (first | (with_reducible first | apply Blk.set | apply Blk.drewN) | exact H.out)
      · simp [Sl.cells, Sl.wait, HU.out]
    · repeat (with_reducible first | exact Keep.refl _ _ | apply Keep.set1 | apply Keep.drewN)
  · have hb : (s.uid == 0) = false := by simp [hu]
    have HU := Lib.hid hu
    clear hu
    go_enter Try.func38, Try.ntmps38
    go_wp2_with fail
    go_end0
    refine ⟨rfl, ?_, ?_⟩
    · apply Blk.cast
      · repeat (first | (with_reducible first | apply Blk.set | apply Blk.drewN) | exact H.out)
      · simp [Sl.cells, Sl.wait, HU.out]
    · repeat (with_reducible first | exact Keep.refl _ _ | apply Keep.set1 | apply Keep.drewN)
/-- Its part is right: what it looks for next. -/
def nextF (s : Sl) (p q : Int) : Sl := if q < p then { s with looks := 0, mode := 1 } else { s with looks := q }
def zF : Fr := ⟨0, 0, 0, 0, 0, 0, 0, 0⟩
def AnsPost (w : World) (g : Nat) (b : Bool) (s : Sl) (e : Ending) (w' : World) : Prop := ∃ f : Fr, e = .returned (.tuple #[f.v, .bool b]) ∧ Hid (IsSl w' g s ∧ Keep (One g) w w')
set_option maxRecDepth 100000 in
set_option maxHeartbeats 2000000 in
theorem scans_anew {w : World} {g : Nat} {s : Sl} (h : IsSl w g s) (f : Fr) (h5 : f.b5 = 128) (hf : f.wf) : Calls Try.prog 41 #[.pointer (some ⟨g, 0, none⟩), f.v] w (AnsPost w g true { s with looks := 0 }) := by
  obtain ⟨c4, c6, c8, c10, f4, f6, f8, f10, gl⟩ := h.facts
  have H := Lib.hid h
  have h6 := hf.b6
  have h7 := hf.b7
  obtain ⟨c, b1, b2, b3, b4, b5, b6, b7⟩ := f
  simp only at h5 h6 h7
  subst h5
  clear h hf
  simp only [Fr.v, Fr.cells]
  go_enter Try.func41, Try.ntmps41
  go_wp2_with fail
  go_quiet (fail)
  go_wp2_with fail
  refine (order_any _ 79 0 (by decide) (by decide)).mono ?_
  rintro e w1 ⟨rfl, hk⟩
  have HB : Hid (Blk w1 (w.heap.size + 1) #[.int .u8 0, .int .u8 0, .int .u8 0, .int .u8 0, .int .u8 0, .int .u8 0, .int .u8 0, .int .u8 0] 95) := Lib.hid (Blk.keep (by
    repeat (first | (with_reducible first | apply Blk.drewN | apply Blk.far _ (by simp; omega)) | exact Blk.at_ (by simp) | (with_reducible apply Blk.alloc))) hk.out id)
  have HS : Hid (IsSl w1 g { s with looks := 0 }) := Lib.hid (Blk.keep (by
    apply Blk.cast
    · repeat (first | (with_reducible first | apply Blk.set | apply Blk.drewN | apply Blk.alloc) | exact H.out)
    · simp [Sl.cells]) hk.out id)
  have HK : Hid (Keep (Own.One g) w w1) := Lib.hid (Keep.trans (S := Own.One g) (by repeat (with_reducible first | exact Keep.refl _ _ | apply Keep.set1 | apply Keep.drewN | apply Keep.alloc)) hk.out (fun _ hi => hi.elim))
  clear hk c4 c6 c8 c10 f4 f6 f8 f10
  have z0 := (HB.out).cell 0
  have z1 := (HB.out).cell 1
  have z2 := (HB.out).cell 2
  have z3 := (HB.out).cell 3
  have z4 := (HB.out).cell 4
  have z5 := (HB.out).cell 5
  have z6 := (HB.out).cell 6
  have z7 := (HB.out).cell 7
  have zf0 := (HB.out).frozen 0
  have zf1 := (HB.out).frozen 1
  have zf2 := (HB.out).frozen 2
  have zf3 := (HB.out).frozen 3
  have zf4 := (HB.out).frozen 4
  have zf5 := (HB.out).frozen 5
  have zf6 := (HB.out).frozen 6
  have zf7 := (HB.out).frozen 7
  simp only [List.getElem?_toArray, List.getElem?_cons_zero, List.getElem?_cons_succ] at z0 z1 z2 z3 z4 z5 z6 z7
  have l1 := HB.out.lt
  simp only [Fr.v, Fr.cells]
  go_wp2_with fail
  refine bodyPost_ret (v := .tuple #[Fr.v (ordF 79 0), .bool true]) (results_row (p := 4) (u := 5) rfl _ _ (w.heap.size + 1) (ordF 79 0) rfl (blk8 HB.out _ _ _ _ _ _ _ _) _ _ rfl rfl) rfl ?_
  refine ⟨(ordF 79 0), rfl, Lib.hid ⟨?_, keep8 HK.out (.inr (by omega)) _ _ _ _ _ _ _ _⟩⟩
  exact HS.out.keep (keep8 (Keep.refl (Own.One (w.heap.size + 1)) _) (.inl rfl) _ _ _ _ _ _ _ _) (fun e => by have e' : g = (w.heap.size + 1) := e; omega)
set_option maxRecDepth 100000 in
set_option maxHeartbeats 2000000 in
theorem scans_part {w : World} {g : Nat} {s : Sl} (h : IsSl w g s) (f : Fr) (h5 : f.b5 ≤ 31) (hf : f.wf) (hp : f.b6 ≠ s.looks) : Calls Try.prog 41 #[.pointer (some ⟨g, 0, none⟩), f.v] w (AnsPost w g false s) := by
  obtain ⟨c4, c6, c8, c10, f4, f6, f8, f10, gl⟩ := h.facts
  have H := Lib.hid h
  have h5' := hf.b5
  have h6 := hf.b6
  have h7 := hf.b7
  obtain ⟨c, b1, b2, b3, b4, b5, b6, b7⟩ := f
  simp only at h5 h5' h6 h7 hp
  have hb1 : (b5 == 128) = false := by simp; omega
  have hb2 : decide (31 < b5) = false := by simp; omega
  have hb3 : (b6 != s.looks) = true := by simp [hp]
  clear h hf hp
  simp only [Fr.v, Fr.cells]
  go_enter Try.func41, Try.ntmps41
  go_wp2_with fail
  go_quiet (fail)
  go_wp2_with fail
  go_quiet (fail)
  go_wp2_with fail
  refine bodyPost_ret (v := .tuple #[Fr.v zF, .bool false]) (results_row (p := 4) (u := 5) rfl _ _ (w.heap.size + 1) zF rfl (blk8 (u0 := .int .u8 0) (u1 := .int .u8 0) (u2 := .int .u8 0) (u3 := .int .u8 0) (u4 := .int .u8 0) (u5 := .int .u8 0) (u6 := .int .u8 0) (u7 := .int .u8 0) (Blk.drewN (Blk.at_ (by simp)) _) _ _ _ _ _ _ _ _) _ _ rfl rfl) rfl ?_
  refine ⟨zF, rfl, Lib.hid ⟨?_, keep8 (Keep.drewN (((Keep.refl _ _).alloc _).alloc _) _) (.inr (by omega)) _ _ _ _ _ _ _ _⟩⟩
  exact IsSl.keep (H.out) (keep8 (Keep.drewN (((Keep.refl Own.Zero _).alloc _).alloc _) _) (.inr (by omega)) _ _ _ _ _ _ _ _) id
set_option maxRecDepth 100000 in
set_option maxHeartbeats 2000000 in
theorem scans_no {w : World} {g : Nat} {s : Sl} (h : IsSl w g s) (hw : s.wf) (f : Fr) (h5 : f.b5 ≤ 31) (hf : f.wf) (hp : f.b6 = s.looks) (h6 : f.b6 ≤ 3) (h7 : f.b7 ≤ 3) (b : Nat) (hb : f.b5 = b) (hm : ¬ s.A f.b6.toNat / 2 ^ b = f.num / 2 ^ b) :
    Calls Try.prog 41 #[.pointer (some ⟨g, 0, none⟩), f.v] w (AnsPost w g false s) := by
  obtain ⟨c4, c6, c8, c10, f4, f6, f8, f10, gl⟩ := h.facts
  have H := Lib.hid h
  have HF := Lib.hid hf
  obtain ⟨a, ha⟩ : ∃ a, a = s.A f.b6.toNat := ⟨_, rfl⟩
  have ha2 : 0 ≤ a ∧ a < 4294967296 := by rw [ha]; exact hw _
  have h6' := hf.b6
  have hpa : w.cell? ⟨g, f.b6.toNat, none⟩ = some (.int .u32 a) := by
    have e : f.b6.toNat = 0 ∨ f.b6.toNat = 1 ∨ f.b6.toNat = 2 ∨ f.b6.toNat = 3 := by omega
    rw [ha]
    rcases e with e | e | e | e <;> rw [e] <;> exact Blk.cell h _
  have h5' := hf.b5
  have h7' := hf.b7
  obtain ⟨c, b1, b2, b3, b4, b5, b6, b7⟩ := f
  simp only at h5 h5' h6' h7' hp h6 h7 hpa hb hm
  obtain ⟨p, rfl⟩ : ∃ p : Nat, b6 = p := ⟨b6.toNat, by omega⟩
  obtain ⟨q, rfl⟩ : ∃ q : Nat, b7 = q := ⟨b7.toNat, by omega⟩
  subst hb
  rw [Int.toNat_natCast] at hpa
  have hb1 : ((b : Int) == 128) = false := by simp; omega
  have hb2 : decide (31 < (b : Int)) = false := by simp; omega
  rw [← hp] at c10
  have hb3 : ((p : Int) != (p : Int)) = false := by simp
  have hb4 : decide (4 ≤ (q : Int)) = false := by simp; omega
  have hb5 : ((b : Int) == 0) = ((b : Int) == 0) := by first | rfl | (simp; omega)
  have hb6 : (a / 2 ^ b != Fr.num ⟨c, b1, b2, b3, b4, b, p, q⟩ / 2 ^ b) = true := by
    rw [ha]
    simpa using hm
  have HM := Lib.hid hm
  have HB5 := Lib.hid hb5
  clear hb5
  have h6b : (p : Int) < 4 := by omega
  have h6a : (0 : Int) ≤ (p : Int) := by omega
  clear h hf hw hm ha hp
  try clear h0
  simp only [Fr.v, Fr.cells]
  go_enter Try.func41, Try.ntmps41
  go_wp2_with fail
  go_quiet (fail)
  go_wp2_with fail
  generalize hW : World.drewN _ _ = W
  have HW : Hid (IsSl W g s ∧ Keep Zero w W ∧ Blk W w.heap.size (Fr.cells ⟨c, b1, b2, b3, b4, b, p, q⟩) 95 ∧ Blk W (w.heap.size + 1) zF.cells 95) := Lib.hid (by
    rw [← hW]
    exact ⟨H.out.keep (Keep.drewN (((Keep.refl Own.Zero _).alloc _).alloc _) _) id, Keep.drewN (((Keep.refl Own.Zero _).alloc _).alloc _) _, ((Blk.new _ _ _).alloc _).drewN _, Blk.drewN (Blk.at_ (by simp)) _⟩)
  have HCl : Hid (∀ w', Keep Zero w w' → w'.cell? ⟨g, 10, none⟩ = some (.int .i64 p) ∧ w'.cell? ⟨g, p, none⟩ = some (.int .u32 a)) := Lib.hid (fun w' hk => ⟨(hk.cell (p := ⟨g, 10, none⟩) gl id).trans c10, (hk.cell (p := ⟨g, p, none⟩) gl id).trans hpa⟩)
  have HBx : Hid (∀ w', Keep Zero W w' → w'.cell? ⟨w.heap.size, 0, none⟩ = some (.int .u8 c) ∧ w'.cell? ⟨w.heap.size, 1, none⟩ = some (.int .u8 b1) ∧ w'.cell? ⟨w.heap.size, 2, none⟩ = some (.int .u8 b2) ∧ w'.cell? ⟨w.heap.size, 3, none⟩ = some (.int .u8 b3) ∧ w'.cell? ⟨w.heap.size, 4, none⟩ = some (.int .u8 b4) ∧ w'.cell? ⟨w.heap.size, 5, none⟩ = some (.int .u8 b) ∧ w'.cell? ⟨w.heap.size, 6, none⟩ = some (.int .u8 p) ∧ w'.cell? ⟨w.heap.size, 7, none⟩ = some (.int .u8 q)) := Lib.hid (fun w' hk => by
    have hB := HW.out.2.2.1.keep hk id
    exact ⟨hB.cell 0, hB.cell 1, hB.cell 2, hB.cell 3, hB.cell 4, hB.cell 5, hB.cell 6, hB.cell 7⟩)
  have HWd : Hid (Keep Zero W W.drew) := Lib.hid ((Keep.refl _ _).drew)
  clear hW
  go_region_held3 (fun w' => (w'.cell? ⟨g, 10, none⟩ = some (.int .i64 p) ∧ w'.cell? ⟨g, p, none⟩ = some (.int .u32 a)) ∧ w'.cell? ⟨w.heap.size, 0, none⟩ = some (.int .u8 c) ∧ w'.cell? ⟨w.heap.size, 1, none⟩ = some (.int .u8 b1) ∧ w'.cell? ⟨w.heap.size, 2, none⟩ = some (.int .u8 b2) ∧ w'.cell? ⟨w.heap.size, 3, none⟩ = some (.int .u8 b3) ∧ w'.cell? ⟨w.heap.size, 4, none⟩ = some (.int .u8 b4) ∧ w'.cell? ⟨w.heap.size, 5, none⟩ = some (.int .u8 b) ∧ w'.cell? ⟨w.heap.size, 6, none⟩ = some (.int .u8 p) ∧ w'.cell? ⟨w.heap.size, 7, none⟩ = some (.int .u8 q)) (first | exact ⟨HCl.out _ (HW.out.2.1.trans HKn.out (fun _ hi => hi.elim)), HBx.out _ HKn.out⟩ | exact ⟨HCl.out _ (HW.out.2.1.trans HWd.out (fun _ hi => hi.elim)), HBx.out _ HWd.out⟩ | (go_keep; done)) (first | (go_at_call 40; refine (number_any _ _ HF.out).mono ?_; rintro e wn ⟨rfl, hkn⟩; have HKn := Lib.hid (HWd.out.trans hkn.out (fun _ hi => hi.elim))))
  have HB : Hid (Blk wn (w.heap.size + 1) #[.int .u8 0, .int .u8 0, .int .u8 0, .int .u8 0, .int .u8 0, .int .u8 0, .int .u8 0, .int .u8 0] 95) := Lib.hid (HW.out.2.2.2.keep HKn.out id)
  have HK : Hid (Keep (Own.One g) w wn) := Lib.hid ((HW.out.2.1.trans HKn.out (fun _ hi => hi.elim)).mono (fun _ hi => hi.elim))
  have HS : Hid (IsSl wn g s) := Lib.hid ((HW.out.1).keep HKn.out id)
  have hb5 := HB5.out
  have HSz : Hid (w.heap.size + 1 < wn.heap.size) := Lib.hid HB.out.lt
  clear HBx HCl HW HWd HKn hkn hpa c4 c6 c8 c10 f4 f6 f8 f10
  have z0 := (HB.out).cell 0
  have z1 := (HB.out).cell 1
  have z2 := (HB.out).cell 2
  have z3 := (HB.out).cell 3
  have z4 := (HB.out).cell 4
  have z5 := (HB.out).cell 5
  have z6 := (HB.out).cell 6
  have z7 := (HB.out).cell 7
  have zf0 := (HB.out).frozen 0
  have zf1 := (HB.out).frozen 1
  have zf2 := (HB.out).frozen 2
  have zf3 := (HB.out).frozen 3
  have zf4 := (HB.out).frozen 4
  have zf5 := (HB.out).frozen 5
  have zf6 := (HB.out).frozen 6
  have zf7 := (HB.out).frozen 7
  simp only [List.getElem?_toArray, List.getElem?_cons_zero, List.getElem?_cons_succ] at z0 z1 z2 z3 z4 z5 z6 z7
  have l1 := HB.out.lt
  go_wp2_with fail
  refine bodyPost_ret (v := .tuple #[Fr.v zF, .bool false]) (results_row (p := 4) (u := 5) rfl _ _ (w.heap.size + 1) zF rfl (blk8 HB.out _ _ _ _ _ _ _ _) _ _ rfl rfl) rfl ?_
  refine ⟨zF, rfl, Lib.hid ⟨?_, keep8 HK.out (.inr (by omega)) _ _ _ _ _ _ _ _⟩⟩
  exact HS.out.keep (keep8 (Keep.refl (Own.One (w.heap.size + 1)) _) (.inl rfl) _ _ _ _ _ _ _ _) (fun e => by have e' : g = (w.heap.size + 1) := e; omega)
set_option maxRecDepth 100000 in
set_option maxHeartbeats 2000000 in
theorem scans_yes {w : World} {g : Nat} {s : Sl} (h : IsSl w g s) (hw : s.wf) (f : Fr) (h5 : f.b5 ≤ 31) (hf : f.wf) (hp : f.b6 = s.looks) (h6 : f.b6 ≤ 3) (h7 : f.b7 ≤ 3) (b : Nat) (hb : f.b5 = b) (h0 : b ≠ 0) (hm : s.A f.b6.toNat / 2 ^ b = f.num / 2 ^ b) :
    Calls Try.prog 41 #[.pointer (some ⟨g, 0, none⟩), f.v] w (AnsPost w g true s) := by
  obtain ⟨c4, c6, c8, c10, f4, f6, f8, f10, gl⟩ := h.facts
  have H := Lib.hid h
  have HF := Lib.hid hf
  obtain ⟨a, ha⟩ : ∃ a, a = s.A f.b6.toNat := ⟨_, rfl⟩
  have ha2 : 0 ≤ a ∧ a < 4294967296 := by rw [ha]; exact hw _
  have h6' := hf.b6
  have hpa : w.cell? ⟨g, f.b6.toNat, none⟩ = some (.int .u32 a) := by
    have e : f.b6.toNat = 0 ∨ f.b6.toNat = 1 ∨ f.b6.toNat = 2 ∨ f.b6.toNat = 3 := by omega
    rw [ha]
    rcases e with e | e | e | e <;> rw [e] <;> exact Blk.cell h _
  have h5' := hf.b5
  have h7' := hf.b7
  obtain ⟨c, b1, b2, b3, b4, b5, b6, b7⟩ := f
  simp only at h5 h5' h6' h7' hp h6 h7 hpa hb hm
  obtain ⟨p, rfl⟩ : ∃ p : Nat, b6 = p := ⟨b6.toNat, by omega⟩
  obtain ⟨q, rfl⟩ : ∃ q : Nat, b7 = q := ⟨b7.toNat, by omega⟩
  subst hb
  rw [Int.toNat_natCast] at hpa
  have hb1 : ((b : Int) == 128) = false := by simp; omega
  have hb2 : decide (31 < (b : Int)) = false := by simp; omega
  rw [← hp] at c10
  have hb3 : ((p : Int) != (p : Int)) = false := by simp
  have hb4 : decide (4 ≤ (q : Int)) = false := by simp; omega
  have hb5 : ((b : Int) == 0) = false := by first | rfl | (simp; omega)
  have hb6 : (a / 2 ^ b != Fr.num ⟨c, b1, b2, b3, b4, b, p, q⟩ / 2 ^ b) = false := by
    rw [ha]
    simpa using hm
  have HM := Lib.hid hm
  have HB5 := Lib.hid hb5
  clear hb5
  have h6b : (p : Int) < 4 := by omega
  have h6a : (0 : Int) ≤ (p : Int) := by omega
  clear h hf hw hm ha hp
  try clear h0
  simp only [Fr.v, Fr.cells]
  go_enter Try.func41, Try.ntmps41
  go_wp2_with fail
  go_quiet (fail)
  go_wp2_with fail
  generalize hW : World.drewN _ _ = W
  have HW : Hid (IsSl W g s ∧ Keep Zero w W ∧ Blk W w.heap.size (Fr.cells ⟨c, b1, b2, b3, b4, b, p, q⟩) 95 ∧ Blk W (w.heap.size + 1) zF.cells 95) := Lib.hid (by
    rw [← hW]
    exact ⟨H.out.keep (Keep.drewN (((Keep.refl Own.Zero _).alloc _).alloc _) _) id, Keep.drewN (((Keep.refl Own.Zero _).alloc _).alloc _) _, ((Blk.new _ _ _).alloc _).drewN _, Blk.drewN (Blk.at_ (by simp)) _⟩)
  have HCl : Hid (∀ w', Keep Zero w w' → w'.cell? ⟨g, 10, none⟩ = some (.int .i64 p) ∧ w'.cell? ⟨g, p, none⟩ = some (.int .u32 a)) := Lib.hid (fun w' hk => ⟨(hk.cell (p := ⟨g, 10, none⟩) gl id).trans c10, (hk.cell (p := ⟨g, p, none⟩) gl id).trans hpa⟩)
  have HBx : Hid (∀ w', Keep Zero W w' → w'.cell? ⟨w.heap.size, 0, none⟩ = some (.int .u8 c) ∧ w'.cell? ⟨w.heap.size, 1, none⟩ = some (.int .u8 b1) ∧ w'.cell? ⟨w.heap.size, 2, none⟩ = some (.int .u8 b2) ∧ w'.cell? ⟨w.heap.size, 3, none⟩ = some (.int .u8 b3) ∧ w'.cell? ⟨w.heap.size, 4, none⟩ = some (.int .u8 b4) ∧ w'.cell? ⟨w.heap.size, 5, none⟩ = some (.int .u8 b) ∧ w'.cell? ⟨w.heap.size, 6, none⟩ = some (.int .u8 p) ∧ w'.cell? ⟨w.heap.size, 7, none⟩ = some (.int .u8 q)) := Lib.hid (fun w' hk => by
    have hB := HW.out.2.2.1.keep hk id
    exact ⟨hB.cell 0, hB.cell 1, hB.cell 2, hB.cell 3, hB.cell 4, hB.cell 5, hB.cell 6, hB.cell 7⟩)
  have HWd : Hid (Keep Zero W W.drew) := Lib.hid ((Keep.refl _ _).drew)
  clear hW
  go_region_held3 (fun w' => (w'.cell? ⟨g, 10, none⟩ = some (.int .i64 p) ∧ w'.cell? ⟨g, p, none⟩ = some (.int .u32 a)) ∧ w'.cell? ⟨w.heap.size, 0, none⟩ = some (.int .u8 c) ∧ w'.cell? ⟨w.heap.size, 1, none⟩ = some (.int .u8 b1) ∧ w'.cell? ⟨w.heap.size, 2, none⟩ = some (.int .u8 b2) ∧ w'.cell? ⟨w.heap.size, 3, none⟩ = some (.int .u8 b3) ∧ w'.cell? ⟨w.heap.size, 4, none⟩ = some (.int .u8 b4) ∧ w'.cell? ⟨w.heap.size, 5, none⟩ = some (.int .u8 b) ∧ w'.cell? ⟨w.heap.size, 6, none⟩ = some (.int .u8 p) ∧ w'.cell? ⟨w.heap.size, 7, none⟩ = some (.int .u8 q)) (first | exact ⟨HCl.out _ (HW.out.2.1.trans HKn.out (fun _ hi => hi.elim)), HBx.out _ HKn.out⟩ | exact ⟨HCl.out _ (HW.out.2.1.trans HWd.out (fun _ hi => hi.elim)), HBx.out _ HWd.out⟩ | (go_keep; done)) (first | (go_at_call 40; refine (number_any _ _ HF.out).mono ?_; rintro e wn ⟨rfl, hkn⟩; have HKn := Lib.hid (HWd.out.trans hkn.out (fun _ hi => hi.elim))))
  have HB : Hid (Blk wn (w.heap.size + 1) #[.int .u8 0, .int .u8 0, .int .u8 0, .int .u8 0, .int .u8 0, .int .u8 0, .int .u8 0, .int .u8 0] 95) := Lib.hid (HW.out.2.2.2.keep HKn.out id)
  have HK : Hid (Keep (Own.One g) w wn) := Lib.hid ((HW.out.2.1.trans HKn.out (fun _ hi => hi.elim)).mono (fun _ hi => hi.elim))
  have HS : Hid (IsSl wn g s) := Lib.hid ((HW.out.1).keep HKn.out id)
  have hb5 := HB5.out
  have HSz : Hid (w.heap.size + 1 < wn.heap.size) := Lib.hid HB.out.lt
  clear HBx HCl HW HWd HKn hkn hpa c4 c6 c8 c10 f4 f6 f8 f10
  go_wp2_with fail
  refine (order_any _ 79 0 (by decide) (by decide)).mono ?_
  rintro e w1 ⟨rfl, hk⟩
  have HB1 := Lib.hid (HB.out.keep hk.out id)
  have HK1 := Lib.hid (HK.out.trans hk.out (fun _ hi => hi.elim))
  have HS1 := Lib.hid (HS.out.keep hk.out id)
  clear HB HK HS
  clear hk
  have z0 := (HB1.out).cell 0
  have z1 := (HB1.out).cell 1
  have z2 := (HB1.out).cell 2
  have z3 := (HB1.out).cell 3
  have z4 := (HB1.out).cell 4
  have z5 := (HB1.out).cell 5
  have z6 := (HB1.out).cell 6
  have z7 := (HB1.out).cell 7
  have zf0 := (HB1.out).frozen 0
  have zf1 := (HB1.out).frozen 1
  have zf2 := (HB1.out).frozen 2
  have zf3 := (HB1.out).frozen 3
  have zf4 := (HB1.out).frozen 4
  have zf5 := (HB1.out).frozen 5
  have zf6 := (HB1.out).frozen 6
  have zf7 := (HB1.out).frozen 7
  simp only [List.getElem?_toArray, List.getElem?_cons_zero, List.getElem?_cons_succ] at z0 z1 z2 z3 z4 z5 z6 z7
  have l1 := HB1.out.lt
  simp only [Fr.v, Fr.cells]
  go_wp2_with fail
  refine bodyPost_ret (v := .tuple #[Fr.v (ordF 79 0), .bool true]) (results_row (p := 4) (u := 5) rfl _ _ (w.heap.size + 1) (ordF 79 0) rfl (blk8 HB1.out _ _ _ _ _ _ _ _) _ _ rfl rfl) rfl ?_
  refine ⟨ordF 79 0, rfl, Lib.hid ⟨?_, keep8 HK1.out (.inr (by omega)) _ _ _ _ _ _ _ _⟩⟩
  have HE := fun v0 v1 v2 v3 v4 v5 v6 v7 => HS1.out.keep (keep8 (Keep.refl (Own.One (w.heap.size + 1)) w1) (.inl rfl) v0 v1 v2 v3 v4 v5 v6 v7) (fun e => by have e' : g = w.heap.size + 1 := e; omega)
  first | exact HE _ _ _ _ _ _ _ _ | (show IsSl _ g (nextF s p q); rw [E.out]; exact HE _ _ _ _ _ _ _ _)
set_option maxRecDepth 100000 in
set_option maxHeartbeats 2000000 in
theorem scans_zero {w : World} {g : Nat} {s : Sl} (h : IsSl w g s) (hw : s.wf) (f : Fr) (h5 : f.b5 ≤ 31) (hf : f.wf) (hp : f.b6 = s.looks) (h6 : f.b6 ≤ 3) (h7 : f.b7 ≤ 3) (b : Nat) (hb : f.b5 = b) (h0 : b = 0) (hm : s.A f.b6.toNat / 2 ^ b = f.num / 2 ^ b) :
    Calls Try.prog 41 #[.pointer (some ⟨g, 0, none⟩), f.v] w (AnsPost w g true (nextF s f.b6 f.b7)) := by
  obtain ⟨c4, c6, c8, c10, f4, f6, f8, f10, gl⟩ := h.facts
  have H := Lib.hid h
  have HF := Lib.hid hf
  obtain ⟨a, ha⟩ : ∃ a, a = s.A f.b6.toNat := ⟨_, rfl⟩
  have ha2 : 0 ≤ a ∧ a < 4294967296 := by rw [ha]; exact hw _
  have h6' := hf.b6
  have hpa : w.cell? ⟨g, f.b6.toNat, none⟩ = some (.int .u32 a) := by
    have e : f.b6.toNat = 0 ∨ f.b6.toNat = 1 ∨ f.b6.toNat = 2 ∨ f.b6.toNat = 3 := by omega
    rw [ha]
    rcases e with e | e | e | e <;> rw [e] <;> exact Blk.cell h _
  have h5' := hf.b5
  have h7' := hf.b7
  obtain ⟨c, b1, b2, b3, b4, b5, b6, b7⟩ := f
  simp only at h5 h5' h6' h7' hp h6 h7 hpa hb hm
  obtain ⟨p, rfl⟩ : ∃ p : Nat, b6 = p := ⟨b6.toNat, by omega⟩
  obtain ⟨q, rfl⟩ : ∃ q : Nat, b7 = q := ⟨b7.toNat, by omega⟩
  subst hb
  rw [Int.toNat_natCast] at hpa
  have hb1 : ((b : Int) == 128) = false := by simp; omega
  have hb2 : decide (31 < (b : Int)) = false := by simp; omega
  rw [← hp] at c10
  have hb3 : ((p : Int) != (p : Int)) = false := by simp
  have hb4 : decide (4 ≤ (q : Int)) = false := by simp; omega
  have hb5 : ((b : Int) == 0) = true := by first | rfl | (simp; omega)
  have hb6 : (a / 2 ^ b != Fr.num ⟨c, b1, b2, b3, b4, b, p, q⟩ / 2 ^ b) = false := by
    rw [ha]
    simpa using hm
  have HM := Lib.hid hm
  have HB5 := Lib.hid hb5
  clear hb5
  have h6b : (p : Int) < 4 := by omega
  have h6a : (0 : Int) ≤ (p : Int) := by omega
  clear h hf hw hm ha hp
  try clear h0
  simp only [Fr.v, Fr.cells]
  go_enter Try.func41, Try.ntmps41
  go_wp2_with fail
  go_quiet (fail)
  go_wp2_with fail
  generalize hW : World.drewN _ _ = W
  have HW : Hid (IsSl W g s ∧ Keep Zero w W ∧ Blk W w.heap.size (Fr.cells ⟨c, b1, b2, b3, b4, b, p, q⟩) 95 ∧ Blk W (w.heap.size + 1) zF.cells 95) := Lib.hid (by
    rw [← hW]
    exact ⟨H.out.keep (Keep.drewN (((Keep.refl Own.Zero _).alloc _).alloc _) _) id, Keep.drewN (((Keep.refl Own.Zero _).alloc _).alloc _) _, ((Blk.new _ _ _).alloc _).drewN _, Blk.drewN (Blk.at_ (by simp)) _⟩)
  have HCl : Hid (∀ w', Keep Zero w w' → w'.cell? ⟨g, 10, none⟩ = some (.int .i64 p) ∧ w'.cell? ⟨g, p, none⟩ = some (.int .u32 a)) := Lib.hid (fun w' hk => ⟨(hk.cell (p := ⟨g, 10, none⟩) gl id).trans c10, (hk.cell (p := ⟨g, p, none⟩) gl id).trans hpa⟩)
  have HBx : Hid (∀ w', Keep Zero W w' → w'.cell? ⟨w.heap.size, 0, none⟩ = some (.int .u8 c) ∧ w'.cell? ⟨w.heap.size, 1, none⟩ = some (.int .u8 b1) ∧ w'.cell? ⟨w.heap.size, 2, none⟩ = some (.int .u8 b2) ∧ w'.cell? ⟨w.heap.size, 3, none⟩ = some (.int .u8 b3) ∧ w'.cell? ⟨w.heap.size, 4, none⟩ = some (.int .u8 b4) ∧ w'.cell? ⟨w.heap.size, 5, none⟩ = some (.int .u8 b) ∧ w'.cell? ⟨w.heap.size, 6, none⟩ = some (.int .u8 p) ∧ w'.cell? ⟨w.heap.size, 7, none⟩ = some (.int .u8 q)) := Lib.hid (fun w' hk => by
    have hB := HW.out.2.2.1.keep hk id
    exact ⟨hB.cell 0, hB.cell 1, hB.cell 2, hB.cell 3, hB.cell 4, hB.cell 5, hB.cell 6, hB.cell 7⟩)
  have HWd : Hid (Keep Zero W W.drew) := Lib.hid ((Keep.refl _ _).drew)
  clear hW
  go_region_held3 (fun w' => (w'.cell? ⟨g, 10, none⟩ = some (.int .i64 p) ∧ w'.cell? ⟨g, p, none⟩ = some (.int .u32 a)) ∧ w'.cell? ⟨w.heap.size, 0, none⟩ = some (.int .u8 c) ∧ w'.cell? ⟨w.heap.size, 1, none⟩ = some (.int .u8 b1) ∧ w'.cell? ⟨w.heap.size, 2, none⟩ = some (.int .u8 b2) ∧ w'.cell? ⟨w.heap.size, 3, none⟩ = some (.int .u8 b3) ∧ w'.cell? ⟨w.heap.size, 4, none⟩ = some (.int .u8 b4) ∧ w'.cell? ⟨w.heap.size, 5, none⟩ = some (.int .u8 b) ∧ w'.cell? ⟨w.heap.size, 6, none⟩ = some (.int .u8 p) ∧ w'.cell? ⟨w.heap.size, 7, none⟩ = some (.int .u8 q)) (first | exact ⟨HCl.out _ (HW.out.2.1.trans HKn.out (fun _ hi => hi.elim)), HBx.out _ HKn.out⟩ | exact ⟨HCl.out _ (HW.out.2.1.trans HWd.out (fun _ hi => hi.elim)), HBx.out _ HWd.out⟩ | (go_keep; done)) (first | (go_at_call 40; refine (number_any _ _ HF.out).mono ?_; rintro e wn ⟨rfl, hkn⟩; have HKn := Lib.hid (HWd.out.trans hkn.out (fun _ hi => hi.elim))))
  have HB : Hid (Blk wn (w.heap.size + 1) #[.int .u8 0, .int .u8 0, .int .u8 0, .int .u8 0, .int .u8 0, .int .u8 0, .int .u8 0, .int .u8 0] 95) := Lib.hid (HW.out.2.2.2.keep HKn.out id)
  have HK : Hid (Keep (Own.One g) w wn) := Lib.hid ((HW.out.2.1.trans HKn.out (fun _ hi => hi.elim)).mono (fun _ hi => hi.elim))
  have HS : Hid (IsSl wn g s) := Lib.hid ((HW.out.1).keep HKn.out id)
  have hb5 := HB5.out
  have HSz : Hid (w.heap.size + 1 < wn.heap.size) := Lib.hid HB.out.lt
  clear HBx HCl HW HWd HKn hkn hpa c4 c6 c8 c10 f4 f6 f8 f10
  obtain ⟨c4, c6, c8, c10, f4, f6, f8, f10, gl⟩ := HS.out.facts
  have hpl := HSz.out
  by_cases hqp : (q : Int) < (p : Int)
  · have E : Hid (nextF s p q = { s with looks := 0, mode := 1 }) := Lib.hid (if_pos hqp)
    go_wp2_with fail
    refine (order_any _ 79 0 (by decide) (by decide)).mono ?_
    rintro e w1 ⟨rfl, hk⟩
    have HB1 : Hid (Blk w1 (w.heap.size + 1) #[.int .u8 0, .int .u8 0, .int .u8 0, .int .u8 0, .int .u8 0, .int .u8 0, .int .u8 0, .int .u8 0] 95) := Lib.hid (Blk.keep (by repeat (first | (with_reducible apply Blk.far _ (by simp; omega)) | exact HB.out)) hk.out id)
    have HK1 : Hid (Keep (Own.One g) w w1) := Lib.hid (Keep.trans (S := Own.One g) (by repeat (with_reducible first | exact HK.out | apply Keep.set1)) hk.out (fun _ hi => hi.elim))
    have HS1 : Hid (IsSl w1 g { s with looks := 0, mode := 1 }) := Lib.hid (Blk.keep (by
      apply Blk.cast
      · repeat (first | (with_reducible apply Blk.set) | exact HS.out)
      · simp [Sl.cells]) hk.out id)
    clear HB HK HS c4 c6 c8 c10 f4 f6 f8 f10 hpl
    clear hk
    have z0 := (HB1.out).cell 0
    have z1 := (HB1.out).cell 1
    have z2 := (HB1.out).cell 2
    have z3 := (HB1.out).cell 3
    have z4 := (HB1.out).cell 4
    have z5 := (HB1.out).cell 5
    have z6 := (HB1.out).cell 6
    have z7 := (HB1.out).cell 7
    have zf0 := (HB1.out).frozen 0
    have zf1 := (HB1.out).frozen 1
    have zf2 := (HB1.out).frozen 2
    have zf3 := (HB1.out).frozen 3
    have zf4 := (HB1.out).frozen 4
    have zf5 := (HB1.out).frozen 5
    have zf6 := (HB1.out).frozen 6
    have zf7 := (HB1.out).frozen 7
    simp only [List.getElem?_toArray, List.getElem?_cons_zero, List.getElem?_cons_succ] at z0 z1 z2 z3 z4 z5 z6 z7
    have l1 := HB1.out.lt
    simp only [Fr.v, Fr.cells]
    go_wp2_with fail
    refine bodyPost_ret (v := .tuple #[Fr.v (ordF 79 0), .bool true]) (results_row (p := 4) (u := 5) rfl _ _ (w.heap.size + 1) (ordF 79 0) rfl (blk8 HB1.out _ _ _ _ _ _ _ _) _ _ rfl rfl) rfl ?_
    refine ⟨ordF 79 0, rfl, Lib.hid ⟨?_, keep8 HK1.out (.inr (by omega)) _ _ _ _ _ _ _ _⟩⟩
    have HE := fun v0 v1 v2 v3 v4 v5 v6 v7 => HS1.out.keep (keep8 (Keep.refl (Own.One (w.heap.size + 1)) w1) (.inl rfl) v0 v1 v2 v3 v4 v5 v6 v7) (fun e => by have e' : g = w.heap.size + 1 := e; omega)
    first | exact HE _ _ _ _ _ _ _ _ | (show IsSl _ g (nextF s p q); rw [E.out]; exact HE _ _ _ _ _ _ _ _)
  · have E : Hid (nextF s p q = { s with looks := q }) := Lib.hid (if_neg hqp)
    go_wp2_with fail
    refine (order_any _ 79 0 (by decide) (by decide)).mono ?_
    rintro e w1 ⟨rfl, hk⟩
    have HB1 : Hid (Blk w1 (w.heap.size + 1) #[.int .u8 0, .int .u8 0, .int .u8 0, .int .u8 0, .int .u8 0, .int .u8 0, .int .u8 0, .int .u8 0] 95) := Lib.hid (Blk.keep (by repeat (first | (with_reducible apply Blk.far _ (by simp; omega)) | exact HB.out)) hk.out id)
    have HK1 : Hid (Keep (Own.One g) w w1) := Lib.hid (Keep.trans (S := Own.One g) (by repeat (with_reducible first | exact HK.out | apply Keep.set1)) hk.out (fun _ hi => hi.elim))
    have HS1 : Hid (IsSl w1 g { s with looks := q }) := Lib.hid (Blk.keep (by
      apply Blk.cast
      · repeat (first | (with_reducible apply Blk.set) | exact HS.out)
      · simp [Sl.cells]) hk.out id)
    clear HB HK HS c4 c6 c8 c10 f4 f6 f8 f10 hpl
    clear hk
    have z0 := (HB1.out).cell 0
    have z1 := (HB1.out).cell 1
    have z2 := (HB1.out).cell 2
    have z3 := (HB1.out).cell 3
    have z4 := (HB1.out).cell 4
    have z5 := (HB1.out).cell 5
    have z6 := (HB1.out).cell 6
    have z7 := (HB1.out).cell 7
    have zf0 := (HB1.out).frozen 0
    have zf1 := (HB1.out).frozen 1
    have zf2 := (HB1.out).frozen 2
    have zf3 := (HB1.out).frozen 3
    have zf4 := (HB1.out).frozen 4
    have zf5 := (HB1.out).frozen 5
    have zf6 := (HB1.out).frozen 6
    have zf7 := (HB1.out).frozen 7
    simp only [List.getElem?_toArray, List.getElem?_cons_zero, List.getElem?_cons_succ] at z0 z1 z2 z3 z4 z5 z6 z7
    have l1 := HB1.out.lt
    simp only [Fr.v, Fr.cells]
    go_wp2_with fail
    refine bodyPost_ret (v := .tuple #[Fr.v (ordF 79 0), .bool true]) (results_row (p := 4) (u := 5) rfl _ _ (w.heap.size + 1) (ordF 79 0) rfl (blk8 HB1.out _ _ _ _ _ _ _ _) _ _ rfl rfl) rfl ?_
    refine ⟨ordF 79 0, rfl, Lib.hid ⟨?_, keep8 HK1.out (.inr (by omega)) _ _ _ _ _ _ _ _⟩⟩
    have HE := fun v0 v1 v2 v3 v4 v5 v6 v7 => HS1.out.keep (keep8 (Keep.refl (Own.One (w.heap.size + 1)) w1) (.inl rfl) v0 v1 v2 v3 v4 v5 v6 v7) (fun e => by have e' : g = w.heap.size + 1 := e; omega)
    first | exact HE _ _ _ _ _ _ _ _ | (show IsSl _ g (nextF s p q); rw [E.out]; exact HE _ _ _ _ _ _ _ _)
end Go.Proofs.Ytcmfcnljdeddfaa.Num
