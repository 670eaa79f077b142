/- Slaves of nodes. -/
import Derived.Test.YtcmfcnljdeddfaaNumJ
namespace Go.Proofs.Ytcmfcnljdeddfaa.Num
open Go.RowKit Go.Proofs.Ytcmfcnljdeddfaa.Own Go.Proofs.Ytcmfcnljdeddfaa.Crc
/-- Nodes without numbers, one behind the other. -/
structure NodesAt (w : World) (B : Option Addr) (L : Nat) (A : Nat → Nat → Int) : Prop where
  at_ : ∀ i, i < L → ∃ b o, B = some ⟨b, o, none⟩ ∧ b < w.heap.size ∧ w.cell? ⟨b, o + i * 5, none⟩ = some (.int .u32 (A i 0)) ∧ w.cell? ⟨b, o + i * 5 + 1, none⟩ = some (.int .u32 (A i 1)) ∧ w.cell? ⟨b, o + i * 5 + 2, none⟩ = some (.int .u32 (A i 2)) ∧ w.cell? ⟨b, o + i * 5 + 3, none⟩ = some (.int .u32 (A i 3)) ∧ w.cell? ⟨b, o + i * 5 + 4, none⟩ = some (.int .i64 0)
  wf : ∀ i k, 0 ≤ A i k ∧ A i k < 4294967296
def pts (g : Nat → Nat) (j : Nat) : List Value := (List.range j).map fun i => .pointer (some ⟨g i, 0, none⟩)
def putG (g : Nat → Nat) (j q : Nat) : Nat → Nat := fun i => if i = j then q else g i
theorem pts_succ (g : Nat → Nat) (j q : Nat) : pts (putG g j q) (j + 1) = pts g j ++ [.pointer (some ⟨q, 0, none⟩)] := by
  unfold pts
  rw [List.range_succ, List.map_append]
  congr 1
  · refine List.map_congr_left fun i hi => ?_
    have : i ≠ j := by
      have := List.mem_range.1 hi
      omega
    unfold putG
    rw [if_neg this]
  · simp [putG]
theorem pts_len (g : Nat → Nat) (j : Nat) : (pts g j).length = j := by simp [pts]
theorem pts_get (g : Nat → Nat) {i j : Nat} (h : i < j) : (pts g j)[i]? = some (.pointer (some ⟨g i, 0, none⟩)) := by
  unfold pts
  rw [List.getElem?_map, List.getElem?_range h]
  rfl
/-- What stands at the head of the loop. -/
structure JL (w wr : World) (g d : Nat → Nat) (A : Nat → Nat → Int) (j : Nat) : Prop where
  sl : ∀ i, i < j → IsSl wr (g i) (freshS (A i))
  inj : ∀ i k, i < j → k < j → g i = g k → i = k
  ds : ∀ i, i < j → IsDs wr (d i) (A i)
  kp : Keep Own.Zero w wr
  new : ∀ i, i < j → w.heap.size ≤ g i
theorem JL.zero {w wr w1 : World} {g d : Nat → Nat} {A : Nat → Nat → Int} {j : Nat} (h : JL w wr g d A j) (k : Keep Own.Zero wr w1) : JL w w1 g d A j :=
  ⟨fun i hi => (h.sl i hi).keep k id, h.inj, fun i hi => (h.ds i hi).keep k id, h.kp.trans k (fun _i hi => hi.elim), h.new⟩
/-- A row of pointers has grown. -/
theorem JL.grown {w wr w1 : World} {g d : Nat → Nat} {A : Nat → Nat → Int} {j n base : Nat} {e : TypeId} {v : Value} {vs : List Value} (h : JL w wr g d A j) (ho : wr.ownsRow base e 1 v n vs) (hb : w.heap.size ≤ base) (he1 : (105 : TypeId) ≠ e) (he2 : (65 : TypeId) ≠ e) (hg : wr.grownBy w1 v.ownBlock) : JL w w1 g d A j :=
  ⟨fun i hi => Blk.grown (h.sl i hi) hg (own_far ho (h.sl i hi) he1), h.inj, fun i hi => by
    obtain ⟨cs, hb2, hc⟩ := h.ds i hi
    exact ⟨cs, Blk.grown hb2 hg (own_far ho hb2 he2), hc⟩, h.kp.grown hg (fun k hk => .inr (by have := own_block ho k hk; omega)), h.new⟩
/-- One more. -/
theorem JL.more {w wr : World} {g d : Nat → Nat} {A : Nat → Nat → Int} {j : Nat} (h : JL w wr g d A j) {q r : Nat} (hq : IsSl wr q (freshS (A j))) (hr : IsDs wr r (A j)) (hn : ∀ i, i < j → g i ≠ q) (hnew : w.heap.size ≤ q) : JL w wr (putG g j q) (putG d j r) A (j + 1) := by
  refine ⟨fun i hi => ?_, fun i k hi hk e => ?_, fun i hi => ?_, h.kp, fun i hi => ?_⟩
  · unfold putG
    by_cases e : i = j
    · subst e
      rw [if_pos rfl]
      exact hq
    · rw [if_neg e]
      exact h.sl i (by omega)
  · unfold putG at e
    by_cases e1 : i = j
    · by_cases e2 : k = j
      · omega
      · rw [if_pos e1, if_neg e2] at e
        exact absurd e.symm (hn k (by omega))
    · by_cases e2 : k = j
      · rw [if_neg e1, if_pos e2] at e
        exact absurd e (hn i (by omega))
      · rw [if_neg e1, if_neg e2] at e
        exact h.inj i k (by omega) (by omega) e
  · unfold putG
    by_cases e : i = j
    · subst e
      rw [if_pos rfl]
      exact hr
    · rw [if_neg e]
      exact h.ds i (by omega)
  · unfold putG
    by_cases e : i = j
    · rw [if_pos e]
      exact hnew
    · rw [if_neg e]
      exact h.new i (by omega)
theorem grow1 {w X w4 : World} {g d : Nat → Nat} {A : Nat → Nat → Int} {j n1 n2 : Nat} {v1 v2 : Value} {xs1 xs2 : List Value} (hg : X.grownBy w4 v1.ownBlock) (hj : JL w X g d A j) (h1 : X.ownsRow w.heap.size 71 1 v1 n1 xs1) (h2 : X.ownsRow w.heap.size 66 1 v2 n2 xs2) :
    Hid (w4.ownsRow w.heap.size 66 1 v2 n2 xs2 ∧ JL w w4 g d A j ∧ w.heap.size ≤ w4.heap.size) := by
  have h3 := hj.grown h1 (Nat.le_refl _) (by decide) (by decide) hg
  refine Lib.hid ⟨own_grown h2 hg (fun k hk e => ?_), h3, h3.kp.size⟩
  obtain ⟨cs1, hb1⟩ := own_ty h1 e
  obtain ⟨cs2, hb2⟩ := own_ty h2 hk
  exact Blk.ne_ty hb1 hb2 (by decide) rfl
theorem grow2 {w X w4 : World} {g d : Nat → Nat} {A : Nat → Nat → Int} {j n1 n2 : Nat} {v1 v2 : Value} {xs1 xs2 : List Value} (hg : X.grownBy w4 v2.ownBlock) (hj : JL w X g d A j) (h1 : X.ownsRow w.heap.size 71 1 v1 n1 xs1) (h2 : X.ownsRow w.heap.size 66 1 v2 n2 xs2) :
    Hid (w4.ownsRow w.heap.size 71 1 v1 n1 xs1 ∧ JL w w4 g d A j) := by
  have h3 := hj.grown h2 (Nat.le_refl _) (by decide) (by decide) hg
  refine Lib.hid ⟨own_grown h1 hg (fun k hk e => ?_), h3⟩
  obtain ⟨cs1, hb1⟩ := own_ty h1 hk
  obtain ⟨cs2, hb2⟩ := own_ty h2 e
  exact Blk.ne_ty hb1 hb2 (by decide) rfl
def SlavesPost (w : World) (n : Nat) (A : Nat → Nat → Int) (e : Ending) (w' : World) : Prop :=
  ∃ (P Q : Option Addr) (c1 c2 : Nat), e = .returned (.tuple #[.slice P n c1, .slice Q n c2]) ∧ Hid (∃ g d, Slvs w' P n g (fun i => freshS (A i)) ∧ Row w' Q (pts d n) ∧ (∀ i, i < n → IsDs w' (d i) (A i)) ∧ Keep Own.Zero w w' ∧ ∀ i, i < n → w.heap.size ≤ g i)
set_option maxRecDepth 100000 in
set_option maxHeartbeats 4000000 in
theorem Slaves_any {w : World} {B : Option Addr} {L cb m n : Nat} {A : Nat → Nat → Int} (h : NodesAt w B L A) (hL : L ≤ 10000000000000) (hm : m ≤ 8) (hn : n = min L m) :
    Calls Try.prog 17 #[.slice B L cb, .int .i64 m] w (SlavesPost w n A) := by
  have H := Lib.hid h
  have HN := Lib.hid hn
  have hn8 : n ≤ 8 := by omega
  clear h hn
  go_enter Try.func17, Try.ntmps17
  go_wp2_with fail
  go_loopg [6, 7, 8] n (fun k s6 s7 s8 wr => ∃ (j : Nat) (g d : Nat → Nat), j ≤ n ∧ k = n - j ∧ s8 = .int .i64 j ∧ wr.ownsRow w.heap.size 71 1 s6 j (pts g j) ∧ wr.ownsRow w.heap.size 66 1 s7 j (pts d j) ∧ Hid (JL w wr g d A j))
  case atStart =>
    refine ⟨0, fun _ => 0, fun _ => 0, by omega, rfl, rfl, ?_, ?_, fun i hi => by omega, fun i k hi => by omega, fun i hi => by omega, by repeat (first | exact Keep.refl _ _ | apply Keep.alloc), fun i hi => by omega⟩
    · exact own_empty 1 ((Blk.new w _ _).alloc _)
    · have h2 := own_empty (w := (w.alloc (.cells #[] 71)).alloc (.cells #[] 66)) (g := w.heap.size + 1) (e := 66) 1 (Blk.at_ (by simp))
      obtain ⟨hl, h3 | ⟨q, cap, cur, hv, hb, r⟩⟩ := h2
      · exact ⟨hl, .inl h3⟩
      · exact ⟨hl, .inr ⟨q, cap, cur, hv, by omega, r⟩⟩
  case round =>
    obtain ⟨j, g, d, hj, hk, rfl, hown1, hown2, HT⟩ := hrel
    have HM := Lib.hid hk
    obtain ⟨P, c1, rfl, hr1, hc1, _, _⟩ := Row.own hown1
    obtain ⟨Q, c2, rfl, hr2, hc2, _, _⟩ := Row.own hown2
    have HO1 := Lib.hid hown1
    have HO2 := Lib.hid hown2
    have HR1 := Lib.hid hr1
    have HR2 := Lib.hid hr2
    clear hk hown1 hown2 hr1 hr2
    by_cases hlt : j < n
    · have h1 : (j : Int) < (L : Int) := by have := HN.out; omega
      have h2 : (j : Int) < (m : Int) := by have := HN.out; omega
      have h0 : (0 : Int) ≤ (j : Int) := by omega
      obtain ⟨b, o, rfl, lb, q0, q1, q2, q3, q4⟩ := H.out.at_ j (by have := HN.out; omega)
      have lb2 : b < wr.heap.size := Nat.lt_of_lt_of_le lb HT.out.kp.size
      have HQ : Hid (∀ w', Keep Own.Zero w w' → w'.cell? ⟨b, o + j * 5, none⟩ = some (.int .u32 (A j 0)) ∧ w'.cell? ⟨b, o + j * 5 + 1, none⟩ = some (.int .u32 (A j 1)) ∧ w'.cell? ⟨b, o + j * 5 + 2, none⟩ = some (.int .u32 (A j 2)) ∧ w'.cell? ⟨b, o + j * 5 + 3, none⟩ = some (.int .u32 (A j 3)) ∧ w'.cell? ⟨b, o + j * 5 + 4, none⟩ = some (.int .i64 0)) := Lib.hid (fun w' hk =>
        ⟨(hk.cell (p := ⟨b, _, none⟩) lb id).trans q0, (hk.cell (p := ⟨b, _, none⟩) lb id).trans q1, (hk.cell (p := ⟨b, _, none⟩) lb id).trans q2, (hk.cell (p := ⟨b, _, none⟩) lb id).trans q3, (hk.cell (p := ⟨b, _, none⟩) lb id).trans q4⟩)
      obtain ⟨p0, p1, p2, p3, p4⟩ := HQ.out _ HT.out.kp
      clear q0 q1 q2 q3 q4 lb
      go_wp2_with fail
      go_region_law (go_simp; go_at_call 23; refine (New_0 _ (A j)).mono ?_; rintro e w2 ⟨gn, rfl, hp2⟩)
      all_goals
        have HK2 : Hid (Keep Own.Zero wr w2) := Lib.hid (Keep.trans (S := Own.Zero) ((Keep.refl _ _).drew) hp2.out.2.2 (fun i hi => hi.elim))
        have HG2 : Hid (IsSl w2 gn (freshS (A j)) ∧ wr.heap.size ≤ gn) := Lib.hid ⟨hp2.out.1, hp2.out.2.1⟩
        obtain ⟨p0, p1, p2, p3, p4⟩ := HQ.out w2 (HT.out.kp.trans HK2.out (fun i hi => hi.elim))
        have lb2 : b < w2.heap.size := Nat.lt_of_lt_of_le lb2 HK2.out.size
        clear hp2
        go_wp2_with fail
        go_region_law (go_simp; go_at_call 24; refine (DsNew_0 _ (A j)).mono ?_; rintro e w3 ⟨dn, rfl, hp3⟩)
        all_goals
          have HK3 : Hid (Keep Own.Zero w2 w3) := Lib.hid (Keep.trans (S := Own.Zero) ((Keep.refl _ _).drew) hp3.out.2.2 (fun i hi => hi.elim))
          have HKr : Hid (Keep Own.Zero wr w3) := Lib.hid (HK2.out.trans HK3.out (fun i hi => hi.elim))
          have HJ3 : Hid (JL w w3 (putG g j gn) (putG d j dn) A (j + 1)) := Lib.hid ((HT.out.zero HKr.out).more (HG2.out.1.keep HK3.out id) hp3.out.1 (fun i hi e => by have h3 := Blk.lt (HT.out.sl i hi); have := HG2.out.2; omega) (by have := HG2.out.2; have := HT.out.kp.size; omega))
          have HO1x : Hid (∀ o, (w3.alloc o).ownsRow w.heap.size 71 1 (.slice P j c1) j (pts g j)) := Lib.hid (fun o => own_keep HO1.out (HKr.out.alloc o) (fun i hi => hi.elim))
          have HO2x : Hid (∀ o, (w3.alloc o).ownsRow w.heap.size 66 1 (.slice Q j c2) j (pts d j)) := Lib.hid (fun o => own_keep HO2.out (HKr.out.alloc o) (fun i hi => hi.elim))
          have hw3 : w.heap.size ≤ w3.heap.size := (HT.out.kp.trans HKr.out (fun i hi => hi.elim)).size
          clear hp3 HG2 p0 p1 p2 p3 p4 lb2 HQ
          go_wp2_with (first | (at_builtin; refine app_own rfl (.tmp 61) (.tmp 63) 60 rfl w.heap.size 71 (.pointer none) 1 8 under60 info71 rfl (by decide) (.slice P j c1) j (pts g j) rfl (HO1x.out _) (some ⟨w3.heap.size, 0, none⟩) 1 1 [.pointer (some ⟨gn, 0, none⟩)] rfl rfl (fun h => by cases h) (Row.blk (Blk.at_ (by simp)) (fun i v hv => by simpa using hv)) (by simp [Value.oneCell']) (by unfold maxLen; omega) (by omega) (by simp; omega) ?_; intro v4 w4 hown4 hgr4; have HG4 := grow1 hgr4 (HJ3.out.zero ((Keep.refl Own.Zero w3).alloc _)) (HO1x.out _) (HO2x.out _); have HO4 := Lib.hid hown4; have hw4 := HG4.out.2.2; clear hown4 hgr4) | (at_builtin; refine app_own rfl (.tmp 65) (.tmp 67) 61 rfl w.heap.size 66 (.pointer none) 1 8 under61 info66 rfl (by decide) (.slice Q j c2) j (pts d j) rfl (own_keep HG4.out.1 ((Keep.refl Own.Zero w4).alloc _) (fun i hi => hi.elim)) (some ⟨w4.heap.size, 0, none⟩) 1 1 [.pointer (some ⟨dn, 0, none⟩)] rfl rfl (fun h => by cases h) (Row.blk (Blk.at_ (by simp)) (fun i v hv => by simpa using hv)) (by simp [Value.oneCell']) (by unfold maxLen; omega) (by omega) (by simp; omega) ?_; intro v5 w5 hown5 hgr5; have HG5 := grow2 hgr5 (HG4.out.2.1.zero ((Keep.refl Own.Zero w4).alloc _)) (own_keep HO4.out ((Keep.refl Own.Zero w4).alloc _) (fun i hi => hi.elim)) (own_keep HG4.out.1 ((Keep.refl Own.Zero w4).alloc _) (fun i hi => hi.elim)); have HO5 := Lib.hid hown5; clear hown5 hgr5))
          go_roundg (n - (j + 1))
          case measure => rw [HM.out]; omega
          case rel => exact ⟨j + 1, putG g j gn, putG d j dn, hlt, rfl, by go_num, by rw [pts_succ]; exact HG5.out.1, by rw [pts_succ]; exact HO5.out, HG5.out.2⟩
    · have hjn : j = n := by omega
      subst hjn
      have HEnd : Hid (SlavesPost w j A (.returned (.tuple #[.slice P j c1, .slice Q j c2])) wr) := Lib.hid ⟨P, Q, c1, c2, rfl, Lib.hid ⟨g, d, {
        row := fun i hi => by
          obtain ⟨b, o, hP, hb, hc⟩ := HR1.out i _ (pts_get g hi)
          refine ⟨b, o, hP, hb, fun k hk e => ?_, hc⟩
          obtain ⟨_, ⟨hv, _⟩ | ⟨q, cap, cur, hv, _, hh, _⟩⟩ := HO1.out
          · rw [hP] at hv
            cases hv
          · rw [hP] at hv
            cases hv
            exact Blk.ne_ty hh (HT.out.sl k hk) (by decide) e
        sl := HT.out.sl
        inj := HT.out.inj
        wf := fun i hi k => H.out.wf i k }, HR2.out, HT.out.ds, HT.out.kp, HT.out.new⟩⟩
      by_cases hLj : j < L
      · have hmj : ¬ (j : Int) < (m : Int) := by have := HN.out; omega
        have h1 : (j : Int) < (L : Int) := by omega
        go_wp2_with fail
        go_ret2
        exact HEnd.out
      · have h1 : ¬ (j : Int) < (L : Int) := by omega
        go_wp2_with fail
        go_ret2
        exact HEnd.out
end Go.Proofs.Ytcmfcnljdeddfaa.Num
