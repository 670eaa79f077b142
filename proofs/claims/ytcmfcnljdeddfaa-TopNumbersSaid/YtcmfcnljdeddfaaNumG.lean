/- One is found. -/
import Derived.Test.YtcmfcnljdeddfaaNumP
namespace Go.Proofs.Ytcmfcnljdeddfaa.Num
open Go.RowKit Go.Proofs.Ytcmfcnljdeddfaa.Own Go.Proofs.Ytcmfcnljdeddfaa.Crc
def frF (s : Sc) : Fr := if s.asks = 3 then zF else s.asksF
def askedF (s : Sc) : Sc := if s.asks = 3 then s else { s with asked := true }
theorem askedF_cases (s : Sc) : askedF s = { s with asked := (askedF s).asked } := by
  unfold askedF
  split <;> rfl
theorem Inv.asked {n : Nat} {σ : Nat → Sl} {s : Sc} (h : Inv n σ s) (b : Bool) : Inv n σ { s with asked := b } := by
  rcases h with h | ⟨p, q, h⟩ | ⟨p, h⟩ | h | h
  · exact .inl ⟨h.asks, h.part, h.bit, h.found, h.zeros, h.waits⟩
  · exact .inr (.inl ⟨p, q, h.asks, h.part, h.bit, h.p3, h.b31, h.found, h.zeros, h.low, h.looks, h.waits, h.live⟩)
  · exact .inr (.inr (.inl ⟨p, h.asks, h.part, h.p3, h.found, h.zeros, h.looks, h.waits, h.live⟩))
  · exact .inr (.inr (.inr (.inl ⟨h.asks, h.found, h.waits, h.none⟩)))
  · exact .inr (.inr (.inr (.inr ⟨h.asks, h.found, h.all, h.one⟩)))
theorem All.asked {n : Nat} {σ0 σ : Nat → Sl} {s : Sc} (h : All n σ0 σ s) (b : Bool) : All n σ0 σ { s with asked := b } := ⟨h.inv.asked b, h.same, h.wf, h.K, h.t0, h.t1⟩
theorem All.askedF {n : Nat} {σ0 σ : Nat → Sl} {s : Sc} (h : All n σ0 σ s) : All n σ0 σ (askedF s) := by
  rw [askedF_cases]
  exact h.asked _
theorem left_askedF (s : Sc) : left (askedF s) = left s := by
  rw [askedF_cases]
  rfl
theorem asks_askedF (s : Sc) : (askedF s).asks = s.asks := by
  rw [askedF_cases]
theorem frF_askedF (s : Sc) : frF (askedF s) = frF s := by
  rw [askedF_cases]
  rfl
theorem Ask_c {n : Nat} {σ0 σ : Nat → Sl} {s : Sc} (hA : All n σ0 σ s) {w : World} {g : Nat} (h : IsSc w g s) :
    Calls Try.prog 30 #[.pointer (some ⟨g, 0, none⟩)] w fun e w' => e = .returned (.tuple #[(frF s).v, .bool (decide (s.asks ≠ 3))]) ∧ Hid (IsSc w' g (askedF s) ∧ Keep (One g) w w') := by
  unfold frF Num.askedF
  by_cases h3 : s.asks = 3
  · rw [if_pos h3, if_pos h3, decide_eq_false (fun k => k h3)]
    refine (Ask_over h h3).mono ?_
    rintro e w' ⟨he, hp⟩
    exact ⟨he, Lib.hid ⟨hp.out.1, hp.out.2.mono (fun _ hi => hi.elim)⟩⟩
  · rw [if_neg h3, if_neg h3, decide_eq_true h3]
    rcases hA.inv.goes h3 with k | ⟨p, b, k⟩ | ⟨p, k⟩
    · exact Ask_any h (.inl k.asks) (by rw [k.part]; decide) (by rw [k.part]; decide) (fun e => by rw [k.asks] at e; cases e) hA.K
    · have := k.p3
      have := k.b31
      exact Ask_any h (.inr (.inl k.asks)) (by rw [k.part]; omega) (by rw [k.part]; omega) (fun _ => by rw [k.bit]; omega) hA.K
    · have := k.p3
      exact Ask_any h (.inr (.inr k.asks)) (by rw [k.part]; omega) (by rw [k.part]; omega) (fun e => by rw [k.asks] at e; cases e) hA.K
theorem Answer_c {n : Nat} {σ0 σ : Nat → Sl} {s : Sc} (hA : All n σ0 σ s) (h3 : s.asks ≠ 3) (hq : s.asked = true) (y : Bool) (hy : y = anyF s.asksF σ n) {w : World} {g : Nat} (h : IsSc w g s) :
    Calls Try.prog 34 #[.pointer (some ⟨g, 0, none⟩), .bool y] w (AnswerPost w g (ansF s y)) := by
  have t1 := hA.t1
  rcases hA.inv.goes h3 with k | ⟨p, b, k⟩ | ⟨p, k⟩
  · rcases y
    · have e : ansF s false = { s with asks := 3, asked := false, took := s.took + 1 } := by
        unfold ansF
        rw [if_neg (by rw [k.asks]; decide), if_pos rfl]
      rw [e]
      exact Answer_no h hq (.inl k.asks) hA.t0 (by omega)
    · have e : ansF s true = { s with asks := 1, asked := false, took := s.took + 1 } := by
        unfold ansF
        rw [if_neg (by rw [k.asks]; decide), if_neg (by decide), if_pos k.asks]
      rw [e]
      exact Answer_0 h hq k.asks hA.t0 (by omega)
  · have hb31 := k.b31
    have hp3 := k.p3
    have e : ∀ y, ansF s y = { s with asks := if s.bit = 0 then 2 else 1, bit := s.bit - 1, asked := false, took := s.took + 1, K := if y then s.K else fun k => if k = s.part.toNat then s.K k + 2 ^ s.bit.toNat else s.K k } := fun y => if_pos k.asks
    rw [e]
    rcases y
    · exact Answer_bit h hq k.asks hA.t0 (by omega) (by rw [k.bit]; omega) (by rw [k.bit]; omega) (by rw [k.part]; omega) (by rw [k.part]; omega) (hA.K _).1 (hA.K _).2 (by rw [k.part, k.bit, Int.toNat_natCast, Int.toNat_natCast]; exact k.low) _ rfl
    · exact Answer_yes h hq k.asks hA.t0 (by omega) (by rw [k.bit]; omega) (by rw [k.bit]; omega) _ rfl
  · have hp3 := k.p3
    have hy2 : y = true := hy.trans (step_H k hA.wf (hA.K p).1 (hA.K p).2).1
    subst hy2
    by_cases h3p : p = 3
    · subst h3p
      have e : ansF s true = { s with asks := 3, part := 4, bit := 31, found := true, asked := false, took := s.took + 1 } := by
        unfold ansF
        rw [if_neg (by rw [k.asks]; decide), if_neg (by decide), if_neg (by rw [k.asks]; decide), if_pos (show s.part = 3 from k.part)]
      rw [e]
      exact Answer_3 h hq k.asks hA.t0 (by omega) k.part
    · have e : ansF s true = { s with asks := 1, part := s.part + 1, bit := 31, asked := false, took := s.took + 1 } := by
        unfold ansF
        rw [if_neg (by rw [k.asks]; decide), if_neg (by decide), if_neg (by rw [k.asks]; decide), if_neg (by rw [k.part]; omega)]
      rw [e]
      exact Answer_2 h hq k.asks hA.t0 (by omega) (by rw [k.part]; omega) (by rw [k.part]; omega)
/-- What stands at the head of the loop. -/
structure OL (w wr : World) (A : Option Addr) (n : Nat) (g : Nat → Nat) (σ0 σ : Nat → Sl) (s : Sc) (gs x : Nat) : Prop where
  sl : Slvs wr A n g σ
  sc : IsSc wr gs s
  all : All n σ0 σ s
  ask : s.asks ≠ 3 → s.asked = true
  fr : Blk wr x (frF s).cells 95
  kp : Keep (Of n g) w wr
  gs0 : w.heap.size < gs
  x0 : w.heap.size < x
  ne : gs ≠ x
  res : Blk wr w.heap.size #[.int .u32 0, .int .u32 0, .int .u32 0, .int .u32 0] 57
  low : ∀ i, i < n → g i < w.heap.size
  alow : ∀ a, A = some a → 0 < n → a.block < w.heap.size
theorem asksF_wf {n : Nat} {σ0 σ : Nat → Sl} {s : Sc} (h : All n σ0 σ s) (ha : s.asks ≠ 3) : s.asksF.wf := by
  have hK := h.K s.part.toNat
  have ho := ordF_wf (c := 81) (n := s.K s.part.toNat) (by decide) hK.1 hK.2
  have hf : s.asksF.c = 81 ∧ s.asksF.b1 = (ordF 81 (s.K s.part.toNat)).b1 ∧ s.asksF.b2 = (ordF 81 (s.K s.part.toNat)).b2 ∧ s.asksF.b3 = (ordF 81 (s.K s.part.toNat)).b3 ∧ s.asksF.b4 = (ordF 81 (s.K s.part.toNat)).b4 := by
    unfold Sc.asksF
    split
    · exact ⟨rfl, rfl, rfl, rfl, rfl⟩
    · split <;> exact ⟨rfl, rfl, rfl, rfl, rfl⟩
  have h567 : (0 ≤ s.asksF.b5 ∧ s.asksF.b5 ≤ 255) ∧ (0 ≤ s.asksF.b6 ∧ s.asksF.b6 ≤ 255) ∧ (0 ≤ s.asksF.b7 ∧ s.asksF.b7 ≤ 255) := by
    rcases h.inv.goes ha with k | ⟨p, b, k⟩ | ⟨p, k⟩
    · have e : s.asksF = { ordF 81 (s.K s.part.toNat) with b5 := 128 } := if_pos k.asks
      rw [e]
      exact ⟨by simp, by simp [ordF], by simp [ordF]⟩
    · obtain ⟨h5, h6, h7⟩ := k.frame
      have := k.b31
      have := k.p3
      omega
    · obtain ⟨h5, h6, h7⟩ := k.frame
      have := k.p3
      omega
  exact ⟨by rw [hf.1]; decide, by rw [hf.2.1]; exact ho.b1, by rw [hf.2.2.1]; exact ho.b2, by rw [hf.2.2.2.1]; exact ho.b3, by rw [hf.2.2.2.2]; exact ho.b4, h567.1, h567.2.1, h567.2.2⟩
/-- How a scan ends. -/
def OneEnd (n : Nat) (σ0 σ : Nat → Sl) (K : Nat → Int) (found : Bool) : Prop :=
  Same n σ0 σ ∧ ((found = false ∧ Waits n σ ∧ ∀ i, i < n → (σ i).free = false) ∨
    (found = true ∧ (∀ i, i < n → (σ i).mode = 0 ∨ ((σ i).mode = 1 ∧ (σ i).free = true ∧ ∀ k, k < 4 → (σ i).A k = K k)) ∧ ∃ i, i < n ∧ (σ i).mode = 1))
theorem All.ends {n : Nat} {σ0 σ : Nat → Sl} {s : Sc} (h : All n σ0 σ s) (ha : s.asks = 3) : OneEnd n σ0 σ s.K s.found := by
  refine ⟨h.same, ?_⟩
  rcases h.inv with k | ⟨p, b, k⟩ | ⟨p, k⟩ | k | k
  · rw [k.asks] at ha; cases ha
  · rw [k.asks] at ha; cases ha
  · rw [k.asks] at ha; cases ha
  · exact .inl ⟨k.found, k.waits, k.none⟩
  · exact .inr ⟨k.found, k.all, k.one⟩
def OnePost (w : World) (A : Option Addr) (n : Nat) (g : Nat → Nat) (σ0 : Nat → Sl) (e : Ending) (w' : World) : Prop :=
  ∃ (K : Nat → Int) (found : Bool), e = .returned (.tuple #[.agg #[.int .u32 (K 0), .int .u32 (K 1), .int .u32 (K 2), .int .u32 (K 3)], .bool found]) ∧ Hid (∃ σ, Slvs w' A n g σ ∧ Keep (Of n g) w w' ∧ OneEnd n σ0 σ K found)
theorem keep4 {S : Nat → Prop} {w w1 : World} {b : Nat} (h : Keep S w w1) (hb : S b ∨ w.heap.size ≤ b) (v0 v1 v2 v3 : Value) :
    Keep S w ((((w1.setCell ⟨b, 0, none⟩ v0).setCell ⟨b, 1, none⟩ v1).setCell ⟨b, 2, none⟩ v2).setCell ⟨b, 3, none⟩ v3) :=
  (((h.set hb v0).set hb v1).set hb v2).set hb v3
theorem blk4 {w : World} {b : Nat} {u0 u1 u2 u3 : Value} {T : TypeId} (h : Blk w b #[u0, u1, u2, u3] T) (v0 v1 v2 v3 : Value) :
    Blk ((((w.setCell ⟨b, 0, none⟩ v0).setCell ⟨b, 1, none⟩ v1).setCell ⟨b, 2, none⟩ v2).setCell ⟨b, 3, none⟩ v3) b #[v0, v1, v2, v3] T :=
  ((((h.set 0 v0).set 1 v1).set 2 v2).set 3 v3).cast (by simp)
theorem results_K {fn : Func} {p u : Tmp} (h : fn.results = #[.cell p 57, .tmp u]) (tmps : Array Value) (w : World) (b : Nat) (k0 k1 k2 k3 : Int) (hp : tmps.getD p undef = .pointer (some ⟨b, 0, none⟩))
    (hb : Blk w b #[.int .u32 k0, .int .u32 k1, .int .u32 k2, .int .u32 k3] 57) (vu : Value) (hu : tmps.getD u undef = vu) :
    (results fn tmps).run Try.prog w = .ok (.tuple #[.agg #[.int .u32 k0, .int .u32 k1, .int .u32 k2, .int .u32 k3], vu]) w := by
  subst hu
  have z0 := hb.cell 0
  have z1 := hb.cell 1
  have z2 := hb.cell 2
  have z3 := hb.cell 3
  simp only [List.getElem?_toArray, List.getElem?_cons_zero, List.getElem?_cons_succ] at z0 z1 z2 z3
  rw [results_cell_tmp h, hp]
  simp [go_sem, z0, z1, z2, z3]
set_option maxRecDepth 100000 in
set_option maxHeartbeats 4000000 in
theorem one_any {w : World} {A : Option Addr} {n cap : Nat} {g : Nat → Nat} {σ0 : Nat → Sl} (h : Slvs w A n g σ0) (hn : n ≤ 8) (hw : Waits n σ0) :
    Calls Try.prog 26 #[.slice A n cap] w (OnePost w A n g σ0) := by
  have H := Lib.hid h
  have HW := Lib.hid hw
  clear h hw
  have HLow : Hid (∀ i, i < n → g i < w.heap.size) := Lib.hid (fun i hi => H.out.lt ⟨i, hi, rfl⟩)
  have HAlow : Hid (∀ a, A = some a → 0 < n → a.block < w.heap.size) := Lib.hid (fun a ha h0 => by
    obtain ⟨b, o, e, hb, _⟩ := H.out.row 0 h0
    rw [ha] at e
    cases e
    exact hb)
  go_enter Try.func26, Try.ntmps26
  go_wp2_with fail
  refine (ScanNew_any _).mono ?_
  rintro e w1 ⟨rfl, hs, hk⟩
  generalize hgs : (World.alloc w _).heap.size = gs at hs ⊢
  have hgs2 : gs = w.heap.size + 1 := by rw [← hgs]; simp
  have HGs := Lib.hid hgs2
  have HS1 := Lib.hid hs
  have HK1 : Hid (Keep Own.Zero w w1) := Lib.hid (Keep.trans (S := Own.Zero) ((Keep.refl _ _).alloc _) hk (fun _ hi => hi.elim))
  have HR1 : Hid (Blk w1 w.heap.size #[.int .u32 0, .int .u32 0, .int .u32 0, .int .u32 0] 57) := Lib.hid (Blk.keep (Blk.new _ _ _) hk id)
  have HA0 : Hid (All n σ0 σ0 ⟨0, 0, 31, fun _ => 0, false, false, 0⟩) := Lib.hid ⟨.inl ⟨rfl, rfl, rfl, rfl, fun _ => rfl, HW.out⟩, fun i hi => ⟨rfl, rfl, rfl⟩, H.out.wf, fun k => ⟨by simp, by simp⟩, by decide, by decide⟩
  clear hk hs hgs hgs2
  go_wp2_with fail
  refine (Ask_c HA0.out HS1.out).mono ?_
  rintro e w2 ⟨rfl, hp⟩
  unfold Fr.v Fr.cells
  have HGs2 : Hid (gs < w2.heap.size) := Lib.hid (Blk.lt hp.out.1)
  have HOL : Hid (OL w (w2.alloc (.cells (frF ⟨0, 0, 31, fun _ => 0, false, false, 0⟩).cells 95)) A n g σ0 σ0 (askedF ⟨0, 0, 31, fun _ => 0, false, false, 0⟩) gs w2.heap.size) := Lib.hid {
    sl := ((H.out.zero HK1.out).other hp.out.2 (fun i hi e => by have := HLow.out i hi; have := HGs.out; omega) (fun a ha h0 e => by have := HAlow.out a ha h0; have := HGs.out; omega)).zero ((Keep.refl _ _).alloc _)
    sc := Blk.alloc hp.out.1 _
    all := HA0.out.askedF
    ask := fun _ => rfl
    fr := by rw [frF_askedF]; exact Blk.new _ _ _
    kp := (Keep.trans (S := Of n g) (HK1.out.mono (fun _ hi => hi.elim)) hp.out.2 (fun i hi => .inr (by have := HGs.out; have e' : i = gs := hi; omega))).alloc _
    gs0 := by have := HGs.out; omega
    x0 := by have := HGs.out; have := HGs2.out; omega
    ne := by have := HGs2.out; omega
    res := (HR1.out.keep hp.out.2 (fun e => by have e' : w.heap.size = gs := e; have := HGs.out; omega)).alloc _
    low := HLow.out
    alow := HAlow.out }
  have HL0 : Hid (left (askedF ⟨0, 0, 31, fun _ => 0, false, false, 0⟩) = 1000) := Lib.hid rfl
  clear hp HS1 HK1 HR1 HA0 H HW HGs HGs2
  go_wp2_with fail
  go_loopg [5, 6] 1000 (fun k s5 s6 wr => ∃ (x : Nat) (σ : Nat → Sl) (s : Sc), k = left s ∧ s5 = .pointer (some ⟨x, 0, none⟩) ∧ s6 = .bool (decide (s.asks ≠ 3)) ∧ Hid (OL w wr A n g σ0 σ s gs x))
  case atStart => exact ⟨_, _, _, HL0.out.symm, rfl, rfl, HOL⟩
  case round =>
    clear HOL HL0
    obtain ⟨x, σ, s, hk, rfl, rfl, HT⟩ := hrel
    have HM := Lib.hid hk
    clear hk
    by_cases ha : s.asks = 3
    · have hd : decide (s.asks ≠ 3) = false := decide_eq_false (fun k => k ha)
      rw [hd]
      have HEnd := Lib.hid (HT.out.all.ends ha)
      have k0 : wr.cell? ⟨gs, 3, none⟩ = some (.int .u32 (s.K 0)) := Blk.cell HT.out.sc 3
      have k1 : wr.cell? ⟨gs, 4, none⟩ = some (.int .u32 (s.K 1)) := Blk.cell HT.out.sc 4
      have k2 : wr.cell? ⟨gs, 5, none⟩ = some (.int .u32 (s.K 2)) := Blk.cell HT.out.sc 5
      have k3 : wr.cell? ⟨gs, 6, none⟩ = some (.int .u32 (s.K 3)) := Blk.cell HT.out.sc 6
      have k7 : wr.cell? ⟨gs, 7, none⟩ = some (.bool s.found) := Blk.cell HT.out.sc 7
      have gl : gs < wr.heap.size := Blk.lt HT.out.sc
      have r0 : wr.cell? ⟨w.heap.size, 0, none⟩ = some (.int .u32 0) := HT.out.res.cell 0
      have r1 : wr.cell? ⟨w.heap.size, 1, none⟩ = some (.int .u32 0) := HT.out.res.cell 1
      have r2 : wr.cell? ⟨w.heap.size, 2, none⟩ = some (.int .u32 0) := HT.out.res.cell 2
      have r3 : wr.cell? ⟨w.heap.size, 3, none⟩ = some (.int .u32 0) := HT.out.res.cell 3
      have q0 : wr.frozen? ⟨w.heap.size, 0, none⟩ = false := HT.out.res.frozen 0
      have q1 : wr.frozen? ⟨w.heap.size, 1, none⟩ = false := HT.out.res.frozen 1
      have q2 : wr.frozen? ⟨w.heap.size, 2, none⟩ = false := HT.out.res.frozen 2
      have q3 : wr.frozen? ⟨w.heap.size, 3, none⟩ = false := HT.out.res.frozen 3
      have rl := HT.out.res.lt
      clear hd ha
      go_wp2_with fail
      go_region
      all_goals
        go_wp2_with fail
        refine bodyPost_ret (v := .tuple #[.agg #[.int .u32 (s.K 0), .int .u32 (s.K 1), .int .u32 (s.K 2), .int .u32 (s.K 3)], .bool s.found]) (results_K (p := 2) (u := 3) rfl _ _ w.heap.size (s.K 0) (s.K 1) (s.K 2) (s.K 3) rfl (Blk.drew (blk4 HT.out.res _ _ _ _)) _ rfl) rfl ?_
        refine ⟨s.K, s.found, rfl, Lib.hid ⟨σ, ?_, (keep4 HT.out.kp (.inr (Nat.le_refl _)) _ _ _ _).drew, HEnd.out⟩⟩
        exact (HT.out.sl.other (keep4 (Keep.refl (Own.One w.heap.size) _) (.inl rfl) _ _ _ _) (fun i hi e => by have := HT.out.low i hi; omega) (fun a ha h0 e => by have := HT.out.alow a ha h0; omega)).zero ((Keep.refl _ _).drew)
    · have hd : decide (s.asks ≠ 3) = true := decide_eq_true ha
      rw [hd]
      have HAs := Lib.hid ha
      obtain ⟨f, hf⟩ : ∃ f, f = s.asksF := ⟨_, rfl⟩
      have hff : frF s = f := by rw [hf]; exact if_neg ha
      have HF := Lib.hid hf
      have HB : Hid (Blk wr x f.cells 95) := Lib.hid (by rw [← hff]; exact HT.out.fr)
      have z0 := (HB.out).cell 0
      have z1 := (HB.out).cell 1
      have z2 := (HB.out).cell 2
      have z3 := (HB.out).cell 3
      have z4 := (HB.out).cell 4
      have z5 := (HB.out).cell 5
      have z6 := (HB.out).cell 6
      have z7 := (HB.out).cell 7
      simp only [Fr.cells, List.getElem?_toArray, List.getElem?_cons_zero, List.getElem?_cons_succ] at z0 z1 z2 z3 z4 z5 z6 z7
      have xl := HB.out.lt
      have HTell : Hid (Calls Try.prog 27 #[.slice A n cap, f.v] wr fun e w' => e = .returned (.bool (anyF f σ n)) ∧ Hid (Slvs w' A n g (after f σ) ∧ Keep (Of n g) wr w')) := Lib.hid (by
        rw [hf]
        exact tells_any HT.out.sl hn _ (asksF_wf HT.out.all ha) (all_Can HT.out.all ha))
      unfold Fr.v Fr.cells at HTell
      clear hd ha hf hff
      go_wp2_with fail
      refine HTell.out.mono ?_
      clear HTell
      rintro e w3 ⟨rfl, hp⟩
      obtain ⟨y, hy⟩ : ∃ y, y = anyF f σ n := ⟨_, rfl⟩
      rw [← hy]
      have hny : ∀ i, Of n g i → i < w.heap.size := fun i hi => by
        obtain ⟨j, hj, rfl⟩ := hi
        exact HT.out.low j hj
      have HNy := Lib.hid hny
      have HS3 : Hid (IsSc w3 gs s) := Lib.hid (HT.out.sc.keep hp.out.2 (fun e => by have := hny _ e; have := HT.out.gs0; omega))
      have HB3 : Hid (Blk w3 x f.cells 95) := Lib.hid (HB.out.keep hp.out.2 (fun e => by have := hny _ e; have := HT.out.x0; omega))
      have HR3 : Hid (Blk w3 w.heap.size #[.int .u32 0, .int .u32 0, .int .u32 0, .int .u32 0] 57) := Lib.hid (HT.out.res.keep hp.out.2 (fun e => by have := hny _ e; omega))
      have HK3 : Hid (Keep (Of n g) w w3) := Lib.hid (HT.out.kp.trans hp.out.2 (fun i hi => .inl hi))
      have HSl3 := Lib.hid hp.out.1
      have HAns : Hid (Calls Try.prog 34 #[.pointer (some ⟨gs, 0, none⟩), .bool y] w3 (AnswerPost w3 gs (ansF s y))) := Lib.hid (Answer_c HT.out.all HAs.out (HT.out.ask HAs.out) y (by rw [hy, HF.out]) HS3.out)
      have HAll : Hid (All n σ0 (after f σ) (ansF s y) ∧ left (ansF s y) < left s) := Lib.hid (by
        rw [hy, HF.out]
        exact all_step HT.out.all HAs.out)
      clear hp hy z0 z1 z2 z3 z4 z5 z6 z7 HB xl hny
      go_wp2_with fail
      refine HAns.out.mono ?_
      clear HAns
      rintro e w4 ⟨rfl, hs, hk⟩
      obtain ⟨s', hs'⟩ : ∃ s', s' = ansF s y := ⟨_, rfl⟩
      rw [← hs'] at hs HAll
      have HS4 := Lib.hid hs
      have HB4 : Hid (Blk w4 x f.cells 95) := Lib.hid (HB3.out.keep hk (fun e => HT.out.ne e.symm))
      have HR4 : Hid (Blk w4 w.heap.size #[.int .u32 0, .int .u32 0, .int .u32 0, .int .u32 0] 57) := Lib.hid (HR3.out.keep hk (fun e => by have e' : w.heap.size = gs := e; have := HT.out.gs0; omega))
      have HK4 : Hid (Keep (Of n g) w w4) := Lib.hid (HK3.out.trans hk (fun i hi => .inr (by have e' : i = gs := hi; have := HT.out.gs0; omega)))
      have HSl4 : Hid (Slvs w4 A n g (after f σ)) := Lib.hid (HSl3.out.other hk (fun i hi e => by have := HT.out.low i hi; have := HT.out.gs0; omega) (fun a ha h0 e => by have := HT.out.alow a ha h0; have := HT.out.gs0; omega))
      clear hs hk hs' HS3 HB3 HR3 HK3 HSl3
      have z0 := (HB4.out).cell 0
      have z1 := (HB4.out).cell 1
      have z2 := (HB4.out).cell 2
      have z3 := (HB4.out).cell 3
      have z4 := (HB4.out).cell 4
      have z5 := (HB4.out).cell 5
      have z6 := (HB4.out).cell 6
      have z7 := (HB4.out).cell 7
      simp only [Fr.cells, List.getElem?_toArray, List.getElem?_cons_zero, List.getElem?_cons_succ] at z0 z1 z2 z3 z4 z5 z6 z7
      have xl := HB4.out.lt
      go_wp2_with fail
      refine (Ask_c HAll.out.1 (Blk.alloc HS4.out _)).mono ?_
      rintro e w5 ⟨rfl, hp⟩
      unfold Fr.v Fr.cells
      have hgx : gs < w4.heap.size := Blk.lt HS4.out
      have hww : w.heap.size < w4.heap.size := HR4.out.lt
      have HB5 : Hid (Blk w5 w4.heap.size f.cells 95) := Lib.hid (Blk.keep (Blk.new _ _ _) hp.out.2 (fun e => by have e' : w4.heap.size = gs := e; omega))
      have HOL5 : Hid (∀ W, Keep (Own.One w4.heap.size) w5 W → Blk W w4.heap.size (frF s').cells 95 → OL w W A n g σ0 (after f σ) (askedF s') gs w4.heap.size) := Lib.hid (fun W hkW hbW => {
        sl := ((HSl4.out.zero ((Keep.refl _ _).alloc _)).other hp.out.2 (fun i hi e => by have := HT.out.low i hi; have := HT.out.gs0; omega) (fun a ha h0 e => by have := HT.out.alow a ha h0; have := HT.out.gs0; omega)).other hkW (fun i hi e => by have := HT.out.low i hi; have := HT.out.gs0; omega) (fun a ha h0 e => by have := HT.out.alow a ha h0; have := HT.out.gs0; omega)
        sc := IsSc.keep hp.out.1 hkW (fun e => by have e' : gs = w4.heap.size := e; omega)
        all := HAll.out.1.askedF
        ask := fun h3 => by
          rw [asks_askedF] at h3
          unfold askedF
          rw [if_neg h3]
        fr := by rw [frF_askedF]; exact hbW
        kp := ((HK4.out.alloc _).trans hp.out.2 (fun i hi => .inr (by have e' : i = gs := hi; have := HT.out.gs0; omega))).trans hkW (fun i hi => .inr (by have e' : i = w4.heap.size := hi; omega))
        gs0 := HT.out.gs0
        x0 := hww
        ne := by omega
        res := ((HR4.out.alloc _).keep hp.out.2 (fun e => by have e' : w.heap.size = gs := e; have := HT.out.gs0; omega)).keep hkW (fun e => by have e' : w.heap.size = w4.heap.size := e; omega)
        low := HT.out.low
        alow := HT.out.alow })
      have HLt : Hid (left (askedF s') < left s ∧ (askedF s').asks = s'.asks) := Lib.hid ⟨by rw [left_askedF]; exact HAll.out.2, asks_askedF s'⟩
      obtain ⟨x', hx'⟩ : ∃ x', x' = w4.heap.size := ⟨_, rfl⟩
      rw [← hx'] at HB5 HOL5 ⊢
      obtain ⟨f', hf'⟩ : ∃ f', f' = frF s' := ⟨_, rfl⟩
      rw [← hf'] at HOL5 ⊢
      clear hp hgx hww HSl4 HK4 HR4 HB4 HS4 z0 z1 z2 z3 z4 z5 z6 z7 xl hx' hf'
      have z0 := (HB5.out).cell 0
      have z1 := (HB5.out).cell 1
      have z2 := (HB5.out).cell 2
      have z3 := (HB5.out).cell 3
      have z4 := (HB5.out).cell 4
      have z5 := (HB5.out).cell 5
      have z6 := (HB5.out).cell 6
      have z7 := (HB5.out).cell 7
      have zf0 := (HB5.out).frozen 0
      have zf1 := (HB5.out).frozen 1
      have zf2 := (HB5.out).frozen 2
      have zf3 := (HB5.out).frozen 3
      have zf4 := (HB5.out).frozen 4
      have zf5 := (HB5.out).frozen 5
      have zf6 := (HB5.out).frozen 6
      have zf7 := (HB5.out).frozen 7
      simp only [Fr.cells, List.getElem?_toArray, List.getElem?_cons_zero, List.getElem?_cons_succ] at z0 z1 z2 z3 z4 z5 z6 z7
      have xl := HB5.out.lt
      go_wp2_with fail
      go_roundg (left (askedF s'))
      case measure => rw [HM.out]; exact HLt.out.1
      case rel => exact ⟨x', after f σ, askedF s', rfl, rfl, by rw [HLt.out.2]; simp, HOL5.out _ (keep8 (Keep.refl (Own.One x') _) (.inl rfl) _ _ _ _ _ _ _ _) (blk8 HB5.out _ _ _ _ _ _ _ _)⟩
end Go.Proofs.Ytcmfcnljdeddfaa.Num
