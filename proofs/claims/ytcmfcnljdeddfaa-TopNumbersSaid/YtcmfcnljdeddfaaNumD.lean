/- All slaves take a frame. -/
import Derived.Test.YtcmfcnljdeddfaaNumC
namespace Go.Proofs.Ytcmfcnljdeddfaa.Num
open Go.RowKit Go.Proofs.Ytcmfcnljdeddfaa.Own Go.Proofs.Ytcmfcnljdeddfaa.Crc
/-- Slaves on memory: a row of pointers. -/
structure Slvs (w : World) (A : Option Addr) (n : Nat) (g : Nat → Nat) (σ : Nat → Sl) : Prop where
  row : ∀ i, i < n → ∃ b o, A = some ⟨b, o, none⟩ ∧ b < w.heap.size ∧ (∀ k, k < n → b ≠ g k) ∧ w.cell? ⟨b, o + i, none⟩ = some (.pointer (some ⟨g i, 0, none⟩))
  sl : ∀ i, i < n → IsSl w (g i) (σ i)
  inj : ∀ i j, i < n → j < n → g i = g j → i = j
  wf : ∀ i, i < n → (σ i).wf
def Of (n : Nat) (g : Nat → Nat) : Nat → Prop := fun k => ∃ i, i < n ∧ k = g i
theorem Slvs.lt {w : World} {A : Option Addr} {n : Nat} {g : Nat → Nat} {σ : Nat → Sl} (h : Slvs w A n g σ) {k : Nat} (hk : Of n g k) : k < w.heap.size := by
  obtain ⟨i, hi, rfl⟩ := hk
  exact Blk.lt (h.sl i hi)
theorem Slvs.zero {w w1 : World} {A : Option Addr} {n : Nat} {g : Nat → Nat} {σ : Nat → Sl} (h : Slvs w A n g σ) (k : Keep Own.Zero w w1) : Slvs w1 A n g σ where
  row := fun i hi => by
    obtain ⟨b, o, e, hb, hf, hc⟩ := h.row i hi
    exact ⟨b, o, e, Nat.lt_of_lt_of_le hb k.size, hf, (k.cell (p := ⟨b, o + i, none⟩) hb id).trans hc⟩
  sl := fun i hi => (h.sl i hi).keep k id
  inj := h.inj
  wf := h.wf
theorem Slvs.cast {w : World} {A : Option Addr} {n : Nat} {g : Nat → Nat} {σ τ : Nat → Sl} (h : Slvs w A n g σ) (e : ∀ i, i < n → τ i = σ i) : Slvs w A n g τ where
  row := h.row
  sl := fun i hi => by rw [e i hi]; exact h.sl i hi
  inj := h.inj
  wf := fun i hi => by rw [e i hi]; exact h.wf i hi
/-- Another block is written. -/
theorem Slvs.other {w w1 : World} {A : Option Addr} {n : Nat} {g : Nat → Nat} {σ : Nat → Sl} (h : Slvs w A n g σ) {q : Nat} (k : Keep (Own.One q) w w1) (hq : ∀ i, i < n → g i ≠ q) (ha : ∀ a, A = some a → 0 < n → a.block ≠ q) : Slvs w1 A n g σ where
  row := fun i hi => by
    obtain ⟨b, o, e, hb, hf, hc⟩ := h.row i hi
    exact ⟨b, o, e, Nat.lt_of_lt_of_le hb k.size, hf, (k.cell (p := ⟨b, o + i, none⟩) hb (ha ⟨b, o, none⟩ e (by omega))).trans hc⟩
  sl := fun i hi => (h.sl i hi).keep k (hq i hi)
  inj := h.inj
  wf := h.wf
theorem Slvs.step {w w1 : World} {A : Option Addr} {n : Nat} {g : Nat → Nat} {σ : Nat → Sl} (h : Slvs w A n g σ) {j : Nat} (hj : j < n) (k : Keep (Own.One (g j)) w w1) (s : Sl) (hs : IsSl w1 (g j) s) (hw : s.wf) :
    Slvs w1 A n g (fun i => if i = j then s else σ i) where
  row := fun i hi => by
    obtain ⟨b, o, e, hb, hf, hc⟩ := h.row i hi
    exact ⟨b, o, e, Nat.lt_of_lt_of_le hb k.size, hf, (k.cell (p := ⟨b, o + i, none⟩) hb (hf j hj)).trans hc⟩
  sl := fun i hi => by
    by_cases e : i = j
    · subst e
      simp only [if_pos]
      exact hs
    · simp only [if_neg e]
      exact (h.sl i hi).keep k (fun e2 => e (h.inj i j hi hj e2))
  inj := h.inj
  wf := fun i hi => by
    by_cases e : i = j
    · simp only [if_pos e]
      exact hw
    · simp only [if_neg e]
      exact h.wf i hi
theorem takeF_A (f : Fr) (s : Sl) : (takeF f s).2.A = s.A := by
  unfold takeF scanF nextF Sl.wait
  repeat' split
  all_goals rfl
/-- Whether one of the first ones answers. -/
def anyF (f : Fr) (σ : Nat → Sl) : Nat → Bool
  | 0 => false
  | j + 1 => anyF f σ j || (takeF f (σ j)).1
theorem anyF_iff (f : Fr) (σ : Nat → Sl) (n : Nat) : anyF f σ n = true ↔ ∃ i, i < n ∧ (takeF f (σ i)).1 = true := by
  induction n with
  | zero => simp [anyF]
  | succ n ih =>
    simp only [anyF, Bool.or_eq_true, ih]
    constructor
    · rintro (⟨i, hi, h⟩ | h)
      · exact ⟨i, by omega, h⟩
      · exact ⟨n, by omega, h⟩
    · rintro ⟨i, hi, h⟩
      by_cases e : i = n
      · exact .inr (e ▸ h)
      · exact .inl ⟨i, by omega, h⟩
def mixF (f : Fr) (σ : Nat → Sl) (j : Nat) : Nat → Sl := fun i => if i < j then (takeF f (σ i)).2 else σ i
theorem Slvs.mix {w w1 : World} {A : Option Addr} {n : Nat} {g : Nat → Nat} {σ : Nat → Sl} {f : Fr} {j : Nat} (h : Slvs w A n g (mixF f σ j)) (hj : j < n) (k : Keep (Own.One (g j)) w w1) (hs : IsSl w1 (g j) (takeF f (σ j)).2) : Slvs w1 A n g (mixF f σ (j + 1)) := by
  have hw : (takeF f (σ j)).2.wf := by
    have h1 := h.wf j hj
    unfold mixF at h1
    rw [if_neg (Nat.lt_irrefl j)] at h1
    unfold Sl.wf
    rw [takeF_A]
    exact h1
  refine (h.step hj k _ hs hw).cast fun i hi => ?_
  unfold mixF
  by_cases e : i = j
  · subst e
    rw [if_pos (Nat.lt_succ_self i), if_pos rfl]
  · rw [if_neg e]
    by_cases e2 : i < j
    · rw [if_pos e2, if_pos (by omega)]
    · rw [if_neg e2, if_neg (by omega)]
set_option maxRecDepth 100000 in
set_option maxHeartbeats 2000000 in
theorem tells_any {w : World} {A : Option Addr} {n cap : Nat} {g : Nat → Nat} {σ : Nat → Sl} (h : Slvs w A n g σ) (hn : n ≤ 8) (f : Fr) (hf : f.wf) (hc : ∀ i, i < n → Can f (σ i)) :
    Calls Try.prog 27 #[.slice A n cap, f.v] w fun e w' => e = .returned (.bool (anyF f σ n)) ∧ Hid (Slvs w' A n g (fun i => (takeF f (σ i)).2) ∧ Keep (Of n g) w w') := by
  have H := Lib.hid h
  have HC := Lib.hid hc
  have HF := Lib.hid hf
  have HK0 : Hid (∀ k, Of n g k → k < w.heap.size) := Lib.hid (fun k hk => h.lt hk)
  clear h hc hf
  unfold Fr.v Fr.cells
  go_enter Try.func27, Try.ntmps27
  go_wp2_with fail
  go_loopg [5, 12] n (fun k s5 s12 wr => ∃ j : Nat, j ≤ n ∧ k = n - j ∧ s12 = .int .i64 j ∧ s5 = .bool (anyF f σ j) ∧ Hid (Slvs wr A n g (mixF f σ j) ∧ Keep (Of n g) w wr ∧ Blk wr w.heap.size f.cells 95))
  case atStart => exact ⟨0, by omega, rfl, rfl, rfl, (H.out.zero ((Keep.refl _ _).alloc _)).cast (fun i hi => if_neg (by omega)), (Keep.refl _ _).alloc _, Blk.new _ _ _⟩
  case round =>
    obtain ⟨j, hj, hk, rfl, rfl, HT⟩ := hrel
    have HM := Lib.hid hk
    clear hk
    by_cases hlt : j < n
    · have h1 : (j : Int) < (n : Int) := by omega
      have h0 : (0 : Int) ≤ (j : Int) := by omega
      obtain ⟨b, o, rfl, lb, hfar, gb⟩ := HT.out.1.row j hlt
      have HSj : Hid (IsSl wr (g j) (σ j)) := Lib.hid (by
        have h2 := HT.out.1.sl j hlt
        unfold mixF at h2
        rw [if_neg (Nat.lt_irrefl j)] at h2
        exact h2)
      have HWj : Hid (σ j).wf := Lib.hid (by
        have h2 := HT.out.1.wf j hlt
        unfold mixF at h2
        rw [if_neg (Nat.lt_irrefl j)] at h2
        exact h2)
      obtain ⟨gj, hgj⟩ : ∃ gj, gj = g j := ⟨_, rfl⟩
      rw [← hgj] at gb
      have HG := Lib.hid hgj
      have z0 := (HT.out.2.2).cell 0
      have z1 := (HT.out.2.2).cell 1
      have z2 := (HT.out.2.2).cell 2
      have z3 := (HT.out.2.2).cell 3
      have z4 := (HT.out.2.2).cell 4
      have z5 := (HT.out.2.2).cell 5
      have z6 := (HT.out.2.2).cell 6
      have z7 := (HT.out.2.2).cell 7
      simp only [Fr.cells, List.getElem?_toArray, List.getElem?_cons_zero, List.getElem?_cons_succ] at z0 z1 z2 z3 z4 z5 z6 z7
      have ll := HT.out.2.2.lt
      obtain ⟨av, hav⟩ : ∃ av, av = anyF f σ j := ⟨_, rfl⟩
      have HA := Lib.hid hav
      rw [← hav]
      obtain ⟨r, hr⟩ : ∃ r, r = (takeF f (σ j)).1 := ⟨_, rfl⟩
      have HR := Lib.hid hr
      have HX : Hid (Calls Try.prog 35 #[.pointer (some ⟨gj, 0, none⟩), f.v] wr (AnsPost wr gj r (takeF f (σ j)).2)) := Lib.hid (by
        rw [hr, hgj]
        exact Take_any HSj.out HWj.out f HF.out (HC.out j hlt))
      unfold Fr.v Fr.cells at HX
      clear hgj hfar hav hr
      go_wp2_with fail
      refine HX.out.mono ?_
      clear HX
      rintro e w2 ⟨fa, rfl, hp⟩
      have HB2 : Hid (Blk w2 w.heap.size f.cells 95) := Lib.hid (HT.out.2.2.keep hp.out.2 (fun e => by
        have e' : w.heap.size = gj := e
        have h3 := HK0.out gj ⟨j, hlt, HG.out⟩
        omega))
      have HS2 : Hid (Slvs w2 (some ⟨b, o, none⟩) n g (mixF f σ (j + 1))) := Lib.hid (HT.out.1.mix hlt (by rw [← HG.out]; exact hp.out.2) (by rw [← HG.out]; exact hp.out.1))
      have HK2 : Hid (Keep (Of n g) w w2) := Lib.hid (HT.out.2.1.trans hp.out.2 (fun i hi => by
        cases hi
        exact .inl ⟨j, hlt, HG.out⟩))
      have HA2 : Hid (anyF f σ (j + 1) = (av || r)) := Lib.hid (by rw [HA.out, HR.out]; rfl)
      clear hp gb z0 z1 z2 z3 z4 z5 z6 z7 lb ll HSj HWj
      unfold Fr.v Fr.cells
      rcases av
      all_goals
        go_wp2_with fail
        go_roundg (n - (j + 1))
        case measure => rw [HM.out]; omega
        case rel => exact ⟨j + 1, hlt, rfl, by go_num, by rw [HA2.out]; rfl, HS2.out.zero ((Keep.refl _ _).alloc _), HK2.out.alloc _, HB2.out.alloc _⟩
    · go_wp2_with fail
      go_ret
      have e : j = n := by omega
      subst e
      exact ⟨rfl, Lib.hid ⟨HT.out.1.cast (fun i hi => (if_pos hi).symm), HT.out.2.1⟩⟩
end Go.Proofs.Ytcmfcnljdeddfaa.Num
