/- All of them are found, and given numbers. -/
import Derived.Test.YtcmfcnljdeddfaaNumQ
namespace Go.Proofs.Ytcmfcnljdeddfaa.Num
open Go.RowKit Go.Proofs.Ytcmfcnljdeddfaa.Own Go.Proofs.Ytcmfcnljdeddfaa.Crc
theorem under67 : Try.prog.underlying 67 = some (.slice 57) := by kernel_rfl
theorem info57 : (Try.prog.info? 57).map (fun i => (i.zero, i.size, i.bytes)) = some (some (.agg #[.int .u32 0, .int .u32 0, .int .u32 0, .int .u32 0]), 4, 16) := by kernel_rfl
/-- What all of it comes to. -/
def AllPost (w : World) (A : Option Addr) (n : Nat) (g : Nat → Nat) (σ0 : Nat → Sl) (ids : List Int) (e : Ending) (w' : World) : Prop :=
  ∃ (P : Option Addr) (k c : Nat) (r : Int), e = .returned (.tuple #[.slice P k c, .int .i64 r]) ∧ Hid (k ≤ ids.length ∧ Keep (Of n g) w w' ∧ ((r = 1 ∧ ¬ Good ids) ∨ (Good ids ∧ ∃ σ, Slvs w' A n g σ ∧ Given n σ ids ids.length ∧ cnt σ n + k = cnt σ0 n ∧
    ((r = 0 ∧ ∀ i, i < n → (σ i).free = false) ∨ (r = 4 ∧ k = ids.length ∧ ∃ i, i < n ∧ (σ i).free = true)))))
theorem Slvs.high {w w1 : World} {A : Option Addr} {n base : Nat} {g : Nat → Nat} {σ : Nat → Sl} {S : Nat → Prop} (h : Slvs w A n g σ) (k : Keep S w w1) (hs : ∀ i, S i → base ≤ i) (low : ∀ i, i < n → g i < base) (alow : ∀ a, A = some a → 0 < n → a.block < base) : Slvs w1 A n g σ where
  row := fun i hi => by
    obtain ⟨b, o, e, hb, hf, hc⟩ := h.row i hi
    exact ⟨b, o, e, Nat.lt_of_lt_of_le hb k.size, hf, (k.cell (p := ⟨b, o + i, none⟩) hb (fun q => by have h1 := hs _ q; have h2 := alow _ e (by omega); simp only at h1 h2; omega)).trans hc⟩
  sl := fun i hi => (h.sl i hi).keep k (fun q => by have := hs _ q; have := low i hi; omega)
  inj := h.inj
  wf := h.wf
theorem Given.more {n : Nat} {σ : Nat → Sl} {ids : List Int} {j : Nat} (h : Given n σ ids j) (_hj : j ≤ ids.length) : Given n σ ids ids.length := by
  refine ⟨h.waits, fun i hi => (h.num i hi).imp_right (fun q => ⟨q.1, q.2.1, ?_⟩), h.dist⟩
  rw [List.take_length]
  exact List.mem_of_mem_take q.2.2
set_option maxRecDepth 100000 in
set_option maxHeartbeats 4000000 in
theorem All_any {w : World} {A : Option Addr} {n cap : Nat} {g : Nat → Nat} {σ0 : Nat → Sl} (h : Slvs w A n g σ0) (hn : n ≤ 8) (ha : Apart n σ0) (hv : Given n σ0 [] 0) (B : Option Addr) (cb : Nat) (ids : List Int) (hr : Row w B (ints .i64 ids)) (hl : ids.length ≤ 20000000000000) (hfar : ∀ a, B = some a → 0 < ids.length → ¬ Of n g a.block) :
    Calls Try.prog 18 #[.slice A n cap, .slice B ids.length cb] w (AllPost w A n g σ0 ids) := by
  have H := Lib.hid h
  have HAp := Lib.hid ha
  have HGv : Hid (Given n σ0 ids 0) := Lib.hid ⟨hv.waits, fun i hi => (hv.num i hi).imp_right (fun q => absurd q.2.2 (by simp)), hv.dist⟩
  have HR := Lib.hid hr
  obtain ⟨L, hL⟩ : ∃ L, L = ids.length := ⟨_, rfl⟩
  have HL := Lib.hid hL
  rw [← hL] at hl ⊢
  have HLow : Hid (∀ i, Of n g i → i < w.heap.size) := Lib.hid (fun i hi => H.out.lt hi)
  have HAlow : Hid (∀ a, A = some a → 0 < n → a.block < w.heap.size) := Lib.hid (fun a ha h0 => by
    obtain ⟨b, o, e, hb, _⟩ := H.out.row 0 h0
    rw [ha] at e
    cases e
    exact hb)
  have HFar : Hid (∀ a, B = some a → 0 < L → ¬ Of n g a.block) := Lib.hid (by rw [hL]; exact hfar)
  clear h ha hv hr hL hfar
  go_enter Try.func18, Try.ntmps18
  go_wp2_with fail
  have hchk := check_any (cap := cap) H.out hn B cb ids HR.out (by rw [← HL.out]; omega)
  rw [← HL.out] at hchk
  refine hchk.mono ?_
  clear hchk
  rintro e w1 ⟨r, rfl, hp⟩
  have HK1 := Lib.hid hp.out.2
  have hor := hp.out.1
  have HOr := Lib.hid hor
  rcases hor with ⟨rfl, hg⟩ | ⟨rfl, hg⟩
  case inr =>
    have HNg := Lib.hid hg
    clear hp hg
    go_wp2_with fail
    go_ret2
    exact ⟨none, 0, 0, 1, rfl, Lib.hid ⟨Nat.zero_le _, HK1.out.mono (fun _ hi => hi.elim), .inl ⟨rfl, HNg.out⟩⟩⟩
  case inl =>
    have HG := Lib.hid hg
    clear hp hg HOr
    go_wp2_with fail
    go_loopg [7, 22] L (fun k s7 s22 wr => ∃ (j : Nat), j ≤ L ∧ k = L - j ∧ s22 = .int .i64 j ∧ ∃ (xs : List Value) (σ : Nat → Sl), wr.ownsRow w.heap.size 57 4 s7 j xs ∧ Hid (Slvs wr A n g σ ∧ Keep (Of n g) w wr ∧ Given n σ ids j ∧ (∀ i, i < n → (σ i).A = (σ0 i).A) ∧ cnt σ n + j = cnt σ0 n))
    case atStart => exact ⟨0, by omega, rfl, rfl, [], σ0, own_nil _ _ _ _, H.out.zero HK1.out, HK1.out.mono (fun _ hi => hi.elim), HGv.out, fun _ _ => rfl, rfl⟩
    case round =>
      obtain ⟨j, hj, hk, rfl, xs, σ, hown, HT⟩ := hrel
      have HM := Lib.hid hk
      obtain ⟨P, c, rfl, _, hjc, _, _⟩ := Row.own hown
      have HO := Lib.hid hown
      clear hk hown
      by_cases hlt : j < L
      · have h1 : (j : Int) < (L : Int) := by omega
        have h0 : (0 : Int) ≤ (j : Int) := by omega
        obtain ⟨x, hx⟩ : ∃ x, ids[j]? = some x := ⟨ids[j]'(by rw [← HL.out]; exact hlt), List.getElem?_eq_getElem _⟩
        obtain ⟨b, o, rfl, lb, gb⟩ := HR.out j (.int .i64 x) (by rw [ints_get, hx]; rfl)
        have HX := Lib.hid hx
        obtain ⟨x1, x2⟩ := HG.out.2 x (List.mem_of_getElem? hx)
        have lb2 : b < wr.heap.size := Nat.lt_of_lt_of_le lb HT.out.2.1.size
        have hj8 : j ≤ 8 := by
          have h1 := HT.out.2.2.2.2
          have h2 := cnt_le σ0 n
          omega
        have gb2 := (HT.out.2.1.cell (p := ⟨b, o + j, none⟩) lb (HFar.out ⟨b, o, none⟩ rfl (by omega))).trans gb
        clear hx gb lb
        go_wp2_with fail
        refine (one_any (cap := cap) HT.out.1 hn HT.out.2.2.1.waits).mono ?_
        clear gb2 lb2
        rintro e w3 ⟨K, found, rfl, hp⟩
        have HP3 := Lib.hid hp.out
        have HO3 := Lib.hid (own_keep HO.out (show Keep (Of n g) wr w3 from hp.out.choose_spec.2.1) HLow.out)
        clear hp
        rcases found
        · go_wp2_with fail
          go_ret2
          obtain ⟨σ1, hs1, hk1, he1⟩ := HP3.out
          obtain ⟨hsame, ⟨_, hw1, hn1⟩ | ⟨hc, _⟩⟩ := he1
          · exact ⟨P, j, c, 0, rfl, Lib.hid ⟨by rw [← HL.out]; exact hj, (HT.out.2.1.trans hk1 (fun i hi => .inl hi)).alloc _, .inr ⟨HG.out, σ1, hs1.zero ((Keep.refl _ _).alloc _), (HT.out.2.2.1.of_same hsame hw1).more (by rw [← HL.out]; exact hj), by
              rw [cnt_congr n (fun i hi => free_of (hsame i hi).2.1 (hsame i hi).2.2)]
              exact HT.out.2.2.2.2, .inl ⟨rfl, hn1⟩⟩⟩⟩
          · cases hc
        · obtain ⟨σ1, hs1, hk1, he1⟩ := HP3.out
          have HS1 := Lib.hid hs1
          have HK3 : Hid (Keep (Of n g) w w3) := Lib.hid (HT.out.2.1.trans hk1 (fun i hi => .inl hi))
          have HE1 := Lib.hid he1
          have HGs := Lib.hid (gives HT.out.2.2.1 (HAp.out.of HT.out.2.2.2.1) he1 HG.out HX.out)
          have hm01 : ∀ i, i < n → (σ1 i).mode = 0 ∨ (σ1 i).mode = 1 := fun i hi => by
            obtain ⟨_, ⟨hc, _⟩ | ⟨_, hall, _⟩⟩ := he1
            · cases hc
            · exact (hall i hi).imp_right And.left
          have HM01 := Lib.hid hm01
          clear hs1 hk1 he1 HP3 hm01
          go_wp2_with fail
          refine (Order_any _ 17 x (by omega) (by omega)).mono ?_
          rintro e w4 ⟨rfl, hk4⟩
          have hw3 : w.heap.size ≤ w3.heap.size := HK3.out.size
          have HS4 : Hid (Slvs w4 A n g σ1) := Lib.hid ((HS1.out.zero ((Keep.refl _ _).alloc _)).zero hk4.out)
          have HK4 : Hid (Keep (Of n g) w w4) := Lib.hid ((HK3.out.alloc _).trans hk4.out (fun i hi => hi.elim))
          have HO4 := Lib.hid (own_keep HO3.out (show Keep Own.Zero w3 w4 from ((Keep.refl _ _).alloc _).trans hk4.out (fun i hi => hi.elim)) (fun i hi => hi.elim))
          have HB4 : Hid (Blk w4 w3.heap.size #[.int .u32 (K 0), .int .u32 (K 1), .int .u32 (K 2), .int .u32 (K 3)] 57) := Lib.hid (Blk.keep (Blk.new _ _ _) hk4.out id)
          have HSz := Lib.hid hw3
          clear hk4 hw3 HS1 HK3 HO3
          go_wp2_with fail
          refine (tells_any (cap := cap) HS4.out hn (ordF 17 x) (ordF_wf (by decide) (by omega) (by omega)) (fun i hi => .inr (.inl ⟨rfl, by simp only [ordF]; omega, by simp only [ordF]; omega, HM01.out i hi⟩))).mono ?_
          rintro e w5 ⟨rfl, hp5⟩
          have HS5 : Hid (Slvs w5 A n g (after (ordF 17 x) σ1)) := Lib.hid hp5.out.1
          have HK5 := Lib.hid (HK4.out.trans hp5.out.2 (fun i hi => .inl hi))
          have HO5 := Lib.hid (own_keep HO4.out hp5.out.2 HLow.out)
          have HB5 := Lib.hid (HB4.out.keep hp5.out.2 (fun e => by have := HLow.out _ e; have := HSz.out; omega))
          clear hp5 HS4 HK4 HO4 HB4
          go_wp2_with fail
          refine (Order_any _ 4 0 (by decide) (by decide)).mono ?_
          rintro e w6 ⟨rfl, hk6⟩
          have HS6 := Lib.hid (HS5.out.zero hk6.out)
          have HK6 := Lib.hid (HK5.out.trans hk6.out (fun i hi => hi.elim))
          have HO6 := Lib.hid (own_keep HO5.out hk6.out (fun i hi => hi.elim))
          have HB6 := Lib.hid (HB5.out.keep hk6.out id)
          clear hk6 HS5 HK5 HO5 HB5
          go_wp2_with fail
          refine (tells_any (cap := cap) HS6.out hn (ordF 4 0) (ordF_wf (by decide) (by decide) (by decide)) (fun i hi => .inl ⟨rfl, rfl⟩)).mono ?_
          rintro e w7 ⟨rfl, hp7⟩
          have HS7 : Hid (Slvs w7 A n g (after (ordF 4 0) (after (ordF 17 x) σ1))) := Lib.hid hp7.out.1
          have HK7 := Lib.hid (HK6.out.trans hp7.out.2 (fun i hi => .inl hi))
          have HO7 := Lib.hid (own_keep HO6.out hp7.out.2 HLow.out)
          have HB7 := Lib.hid (HB6.out.keep hp7.out.2 (fun e => by have := HLow.out _ e; have := HSz.out; omega))
          clear hp7 HS6 HK6 HO6 HB6
          have k0 : w7.cell? ⟨w3.heap.size, 0, none⟩ = some (.int .u32 (K 0)) := HB7.out.cell 0
          have k1 : w7.cell? ⟨w3.heap.size, 1, none⟩ = some (.int .u32 (K 1)) := HB7.out.cell 1
          have k2 : w7.cell? ⟨w3.heap.size, 2, none⟩ = some (.int .u32 (K 2)) := HB7.out.cell 2
          have k3 : w7.cell? ⟨w3.heap.size, 3, none⟩ = some (.int .u32 (K 3)) := HB7.out.cell 3
          have kl := HB7.out.lt
          have HOX : Hid (∀ o, (w7.alloc o).ownsRow w.heap.size 57 4 (.slice P j c) j xs) := Lib.hid (fun o => own_keep HO7.out ((Keep.refl Own.Zero w7).alloc o) (fun i hi => hi.elim))
          have hw7 : w.heap.size ≤ w7.heap.size := HK7.out.size
          go_wp2_with (at_builtin; refine app_own rfl (.tmp 42) (.tmp 44) 67 rfl w.heap.size 57 (.agg #[.int .u32 0, .int .u32 0, .int .u32 0, .int .u32 0]) 4 16 under67 info57 rfl (by decide) (.slice P j c) j xs rfl (HOX.out _) (some ⟨w7.heap.size, 0, none⟩) 1 1 [.int .u32 (K 0), .int .u32 (K 1), .int .u32 (K 2), .int .u32 (K 3)] rfl rfl (fun h => by cases h) (Row.blk (Blk.at_ (by simp)) (fun i v hv => by simpa using hv)) (by simp [Value.oneCell']) (by unfold maxLen; omega) (by omega) (by simp; omega) ?_; intro v8 w8 hown8 hgr8)
          have HK8 : Hid (Keep (fun k => w.heap.size ≤ k) w7 w8) := Lib.hid (Keep.grown ((Keep.refl _ _).alloc _) hgr8 (fun k hk => .inl (own_block HO7.out k hk)))
          have HS8 := Lib.hid (HS7.out.high HK8.out (fun i hi => hi) (fun i hi => HLow.out _ ⟨i, hi, rfl⟩) HAlow.out)
          have HKE : Hid (Keep (Of n g) w w8) := Lib.hid (HK7.out.trans HK8.out (fun i hi => .inr hi))
          have HO8 := Lib.hid hown8
          clear hown8 hgr8 HOX k0 k1 k2 k3 kl hw7 HB7 HO7 HS7
          go_wp2_with fail
          go_roundg (L - (j + 1))
          case measure => rw [HM.out]; omega
          case rel => exact ⟨j + 1, hlt, rfl, by go_num, _, _, HO8.out, HS8.out, HKE.out, HGs.out.1, fun i hi => (HGs.out.2.1 i hi).trans (HT.out.2.2.2.1 i hi), by have h1 := HGs.out.2.2; have h2 := HT.out.2.2.2.2; omega⟩
      · have hjL : j = L := by omega
        subst hjL
        have HAsk := Lib.hid (ask_any n σ HT.out.2.2.1.waits)
        go_wp2_with fail
        refine (ScanNew_any _).mono ?_
        rintro e w3 ⟨rfl, hs, hk⟩
        have HS3 := Lib.hid hs
        have HT3 := Lib.hid (HT.out.1.zero hk)
        have HK3 : Hid (Keep (Of n g) w w3) := Lib.hid (HT.out.2.1.trans hk (fun i hi => hi.elim))
        have HO3 := Lib.hid (own_keep HO.out hk (fun i hi => hi.elim))
        have HLw : Hid (∀ i, Of n g i → i < wr.heap.size) := Lib.hid (fun i hi => by have := HLow.out i hi; have := HT.out.2.1.size; omega)
        have HAlw : Hid (∀ a, A = some a → 0 < n → a.block < wr.heap.size) := Lib.hid (fun a ha h0 => by have := HAlow.out a ha h0; have := HT.out.2.1.size; omega)
        have HWr : Hid (w.heap.size ≤ wr.heap.size) := Lib.hid HT.out.2.1.size
        obtain ⟨gs, hgs⟩ : ∃ gs, gs = wr.heap.size := ⟨_, rfl⟩
        rw [← hgs] at HS3 HLw HAlw HWr ⊢
        clear hs hk hgs
        go_wp2_with fail
        have hask : Calls Try.prog 30 #[.pointer (some ⟨gs, 0, none⟩)] w3 fun e w' => e = .returned (.tuple #[askF.v, .bool true]) ∧ Hid (IsSc w' gs ⟨0, 0, 31, fun _ => 0, false, true, 0⟩ ∧ Keep (One gs) w3 w') := Ask_any HS3.out (.inl rfl) (by decide) (by decide) (fun e => by cases e) (fun k => ⟨by simp, by simp⟩)
        refine hask.mono ?_
        clear hask
        rintro e w4 ⟨rfl, hp⟩
        have HT4 : Hid (Slvs w4 A n g σ) := Lib.hid (HT3.out.other hp.out.2 (fun i hi e => by have := HLw.out (g i) ⟨i, hi, rfl⟩; omega) (fun a ha h0 e => by have := HAlw.out a ha h0; omega))
        have HK4 : Hid (Keep (Of n g) w w4) := Lib.hid (HK3.out.trans hp.out.2 (fun i hi => .inr (by have e' : i = gs := hi; have := HWr.out; omega)))
        clear hp HT3 HK3 HS3
        unfold Fr.v Fr.cells
        go_wp2_with fail
        refine (tells_any (cap := cap) (HT4.out.zero ((Keep.refl _ _).alloc _)) hn askF (by refine ⟨?_, ?_, ?_, ?_, ?_, ?_, ?_, ?_⟩ <;> decide) (fun i hi => .inr (.inr ⟨rfl, HT.out.2.2.1.waits i hi, .inl rfl⟩))).mono ?_
        rintro e w5 ⟨rfl, hp5⟩
        have HEnd : Hid (∃ σ', Slvs w5 A n g σ' ∧ Keep (Of n g) w w5 ∧ Given n σ' ids ids.length ∧ cnt σ' n + j = cnt σ0 n ∧ ((anyF askF σ n = false → ∀ i, i < n → (σ' i).free = false) ∧ (anyF askF σ n = true → ∃ i, i < n ∧ (σ' i).free = true))) := Lib.hid (by
          obtain ⟨hi1, hi2, hi3⟩ := HAsk.out
          refine ⟨after askF σ, hp5.out.1, (HK4.out.alloc _).trans hp5.out.2 (fun i hi => .inl hi), ?_, ?_, fun hf i hi => ?_, fun hf => ?_⟩
          · rw [← HL.out]
            have h1 := HT.out.2.2.1.of_same hi2 hi3
            exact h1
          · rw [cnt_congr n (fun i hi => free_of (hi2 i hi).2.1 (hi2 i hi).2.2)]
            exact HT.out.2.2.2.2
          · rw [free_of (hi2 i hi).2.1 (hi2 i hi).2.2]
            rcases hfi : (σ i).free
            · rfl
            · rw [hi1.2 ⟨i, hi, hfi⟩] at hf
              cases hf
          · obtain ⟨i, hi, hfi⟩ := hi1.1 hf
            exact ⟨i, hi, by rw [free_of (hi2 i hi).2.1 (hi2 i hi).2.2]; exact hfi⟩)
        obtain ⟨y, hy⟩ : ∃ y, y = anyF askF σ n := ⟨_, rfl⟩
        rw [← hy] at HEnd ⊢
        clear hp5 hy
        rcases y
        · go_wp2_with fail
          go_ret2
          obtain ⟨σ', h1, h2, h3, h4, h5, _⟩ := HEnd.out
          exact ⟨P, j, c, 0, rfl, Lib.hid ⟨by rw [← HL.out]; exact Nat.le_refl _, h2, .inr ⟨HG.out, σ', h1, h3, h4, .inl ⟨rfl, h5 (by first | rfl | trivial)⟩⟩⟩⟩
        · go_wp2_with fail
          go_ret2
          obtain ⟨σ', h1, h2, h3, h4, _, h5⟩ := HEnd.out
          exact ⟨P, j, c, 4, rfl, Lib.hid ⟨by rw [← HL.out]; exact Nat.le_refl _, h2, .inr ⟨HG.out, σ', h1, h3, h4, .inr ⟨rfl, HL.out, h5 (by first | rfl | trivial)⟩⟩⟩⟩
end Go.Proofs.Ytcmfcnljdeddfaa.Num
