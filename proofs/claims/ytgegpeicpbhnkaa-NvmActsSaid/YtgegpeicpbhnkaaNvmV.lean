/- The document's Save. -/
import Derived.Test.YtgegpeicpbhnkaaNvmT
import Derived.Test.YtgegpeicpbhnkaaNvmU
import Derived.Deep.Cut
import Derived.Deep.DeepCutAuto
import Derived.Deep.CutBlock
namespace Go.Proofs.Ytgegpeicpbhnkaa.Nvm
open Go.RowKit Go.Proofs.Ytgegpeicpbhnkaa.Own Go.Proofs.Ytgegpeicpbhnkaa.Crc
/-- Bytes to be kept by the document's chip: none of them, or none at the chip's places. -/
structure Srd (w : World) (g pg : Nat) (A : Option Addr) (c : Nat) (xs : List Int) : Prop where
  row : Row w A (ints .u8 xs)
  le : xs.length ≤ c
  nil : A = none → c = 0
  far : ∀ a, A = some a → ints .u8 xs ≠ [] → ¬ Chp g pg a.block
theorem Srd.keep {S : Nat → Prop} {w w1 : World} {g pg : Nat} {A : Option Addr} {c : Nat} {xs : List Int} (h : Srd w g pg A c xs) (k : Keep S w w1) (hs : ∀ i, S i → Chp g pg i) : Srd w1 g pg A c xs :=
  ⟨h.row.keep k (fun a ha hx e => h.far a ha hx (hs _ e)), h.le, h.nil, h.far⟩
theorem DWrite_h {w : World} {g : Nat} {c : Ch} (h : IsDc w g c) (k : Int) (b : Nat → Int) (hb : ∀ i, 0 ≤ b i ∧ b i ≤ 255) (pg : Nat) (hpg : c.pg = pg) (r : Bool) (c2 : Ch) (hr : c.write k b = (r, c2)) :
    Calls Try.prog 25 #[.pointer (some ⟨g, 0, none⟩), .int .i64 k, .agg #[.int .u8 (b 0), .int .u8 (b 1), .int .u8 (b 2), .int .u8 (b 3), .int .u8 (b 4), .int .u8 (b 5), .int .u8 (b 6), .int .u8 (b 7)]] w fun e w' => e = .returned (.bool r) ∧ Hid (IsDc w' g c2 ∧ c2.pg = pg ∧ c2.n = c.n ∧ Keep (Chp g pg) w w') := by
  refine (DWrite_any h k b hb).mono ?_
  rintro e w' ⟨he, h1, h2⟩
  have h3 := write_pn c k b
  rw [hr] at he h1 h2 h3
  simp only at he h1 h2 h3
  rw [h3.1, hpg] at h2
  exact ⟨he, Lib.hid ⟨h1, h3.1.trans hpg, h3.2, h2⟩⟩
def partP (xs : List Int) (j x : Nat) : Nat → Int := fun r => if r < x then pageOf xs j r else 0
theorem partP_set (xs : List Int) (j x : Nat) (hx : x < 8) (y : Int) (hy : pageOf xs j x = y) : (pageC (partP xs j x)).setIfInBounds x (.int .u8 y) = pageC (partP xs j (x + 1)) := by
  subst hy
  match x, hx with
  | 0, _ => simp [pageC, partP]
  | 1, _ => simp [pageC, partP]
  | 2, _ => simp [pageC, partP]
  | 3, _ => simp [pageC, partP]
  | 4, _ => simp [pageC, partP]
  | 5, _ => simp [pageC, partP]
  | 6, _ => simp [pageC, partP]
  | 7, _ => simp [pageC, partP]
theorem partP_cell (xs : List Int) (j x : Nat) (hx : x < 8) : (pageC (partP xs j x))[x]? = some (.int .u8 0) := by
  match x, hx with
  | 0, _ => simp [pageC, partP]
  | 1, _ => simp [pageC, partP]
  | 2, _ => simp [pageC, partP]
  | 3, _ => simp [pageC, partP]
  | 4, _ => simp [pageC, partP]
  | 5, _ => simp [pageC, partP]
  | 6, _ => simp [pageC, partP]
  | 7, _ => simp [pageC, partP]
theorem pageOf_at (xs : List Int) (j r : Nat) : pageOf xs j r = xs.getD (8 * j + r) 0 := by
  unfold pageOf
  simp only [List.getD_eq_getElem?_getD, List.getElem?_drop]
theorem partP_full (xs : List Int) (j x : Nat) (h : 8 ≤ x ∨ xs.length ≤ 8 * j + x) (r : Nat) (hr : r < 8) : partP xs j x r = pageOf xs j r := by
  unfold partP
  split
  · rfl
  · rw [pageOf_at, List.getD_eq_getElem?_getD, List.getElem?_eq_none (by omega)]
    rfl
theorem putsGo_succ (f : Nat) (xs : List Int) (k i : Nat) (c : Ch) : putsGo f xs (k + 1) i c = if (c.write ((f : Int) + ((i : Int) + 1)) (pageOf xs i)).1 then putsGo f xs k (i + 1) (c.write ((f : Int) + ((i : Int) + 1)) (pageOf xs i)).2 else (false, (c.write ((f : Int) + ((i : Int) + 1)) (pageOf xs i)).2) := rfl
def DSavePost (w : World) (g : Nat) (pg : Nat) (r : Int × Ch) (e : Ending) (w' : World) : Prop := e = .returned (.int .i64 r.1) ∧ Hid (IsDc w' g r.2 ∧ Keep (Chp g pg) w w' ∧ r.2.pg = pg)
theorem headB_bound {k : Nat} {xs : List Int} (hk : k ≤ 65535) (hb : ∀ x ∈ xs, 0 ≤ x ∧ x ≤ 255) : ∀ i, 0 ≤ headB k xs i ∧ headB k xs i ≤ 255 := by
  intro i
  have hs : crc (headL k xs.length ++ xs) < 65536 := crc_lt (fun x hx => by
    rcases List.mem_append.1 hx with h | h
    · unfold headL at h
      simp only [List.mem_cons, List.not_mem_nil, or_false] at h
      omega
    · exact hb x h)
  unfold headB
  refine getD_bound (fun y hy => ?_) i
  rcases List.mem_append.1 hy with h | h
  · unfold headL at h
    simp only [List.mem_cons, List.not_mem_nil, or_false] at h
    omega
  · simp only [List.mem_cons, List.not_mem_nil, or_false] at h
    omega
set_option maxRecDepth 100000 in
set_option maxHeartbeats 16000000 in
theorem DSave_any {w : World} {g : Nat} {c : Ch} (h : IsDc w g c) (A : Option Addr) (d : Nat) (xs : List Int) (hx : Srd w g c.pg A d xs) (hb : ∀ x ∈ xs, 0 ≤ x ∧ x ≤ 255) (hbig : xs.length ≤ 140737488355328) :
    Calls Try.prog 27 #[.pointer (some ⟨g, 0, none⟩), .slice A xs.length d] w (DSavePost w g c.pg (saveF c xs)) := by
  have c0 : w.cell? ⟨g, 0, none⟩ = some (.slice (some ⟨c.pg, 0, none⟩) c.n c.n) := h.chip.cell 0
  have cd : w.cell? ⟨g, 2, none⟩ = some (.bool c.dead) := h.chip.cell 2
  have n0 := h.n0
  have n1 := h.n1
  have H := Lib.hid h
  have HX := Lib.hid hx
  have HB := Lib.hid hb
  have hkk := dkept_kept c.P c.n h.wf
  have hkc := keptF_cnt c.P c.n h.wf
  obtain ⟨n, hn⟩ : ∃ n, n = xs.length := ⟨_, rfl⟩
  have HN := Lib.hid hn
  rw [← hn] at hbig ⊢
  obtain ⟨⟨kl, kc, kw⟩, hkr⟩ : ∃ r, r = dkeptF c.P c.n := ⟨_, rfl⟩
  rw [← hkr] at hkk
  simp only at hkk
  rw [← hkk.2.1] at hkc
  obtain ⟨kc0, kc1, _⟩ := hkc
  have HNx := Lib.hid (nxt_range kc0 kc1)
  have HKr := Lib.hid hkr
  obtain ⟨m, hm⟩ : ∃ m, m = c.n / 2 := ⟨_, rfl⟩
  have hm1 : 1 ≤ m := by omega
  have hm2 : m + m ≤ c.n := by omega
  have hmn : (c.n : Int) / 2 = (m : Int) := by omega
  have hmt : (c.n : Int).tdiv 2 = (m : Int) := by rw [Int.tdiv_eq_ediv_of_nonneg (by omega)]; omega
  have HM := Lib.hid hm
  obtain ⟨f, hf⟩ : ∃ f, f = nextF c.P c.n := ⟨_, rfl⟩
  have HF0 : Hid (f = if 0 < kc ∧ kw = 0 then m else 0) := Lib.hid (by
    rw [hf]
    unfold nextF
    rw [← hm]
    by_cases hp : 0 < kc ∧ kw = 0
    · rw [if_pos hp, if_pos (hkk.2.2.1 hp)]
    · rw [if_neg hp, if_neg (fun k => hp (hkk.2.2.2 k))])
  have hfm : f + m ≤ c.n := by
    rw [HF0.out]
    split <;> omega
  have HSv : Hid (saveF c xs = if 8 * ((m : Int) - 1) < (n : Int) then (2, c) else if c.dead then (6, c) else (if (putsF c f (nxt kc) xs).1 then 0 else 6, (putsF c f (nxt kc) xs).2)) := Lib.hid (by
    unfold saveF
    rw [hmn, ← hn, ← hf, ← hkk.2.1])
  obtain ⟨N, hNN⟩ : ∃ N, N = c.n := ⟨_, rfl⟩
  rw [← hNN] at c0 n0 n1 hm2 hmn hmt hfm
  have HNN := Lib.hid hNN
  clear h hx hb hn hkr hm hf hkk hNN
  by_cases hlong : 8 * ((m : Int) - 1) < (n : Int)
  · have HF : Hid (saveF c xs = (2, c)) := Lib.hid (HSv.out.trans (if_pos hlong))
    clear cd
    go_enter Try.func27, Try.ntmps27
    go_wp2
    go_ret
    rw [HF.out]
    exact ⟨rfl, H.out, Keep.refl _ _, rfl⟩
  · obtain ⟨dead, hdead⟩ : ∃ dd, c.dead = dd := ⟨_, rfl⟩
    rw [hdead] at cd
    have HDd := Lib.hid hdead
    clear hdead
    cases dead with
    | true =>
      have HF : Hid (saveF c xs = (6, c)) := Lib.hid (by rw [HSv.out, if_neg hlong, HDd.out]; rfl)
      go_enter Try.func27, Try.ntmps27
      go_wp2
      go_ret
      rw [HF.out]
      exact ⟨rfl, H.out, Keep.refl _ _, rfl⟩
    | false =>
      have HF1 : Hid (saveF c xs = (if (putsF c f (nxt kc) xs).1 then 0 else 6, (putsF c f (nxt kc) xs).2)) := Lib.hid (by
        rw [HSv.out, if_neg hlong, HDd.out]
        rfl)
      have hn8 : n ≤ 8 * (m - 1) := by omega
      go_enter Try.func27, Try.ntmps27
      go_wp2_with fail
      refine (DKept_any H.out).mono ?_
      rintro e w1 hp
      rw [← HKr.out] at hp
      obtain ⟨Ak, ck, rfl, h1, h2, h3, hk, h5⟩ := hp
      have HC1 := Lib.hid (H.out.keep hk id id)
      have HX1 := Lib.hid (HX.out.keep hk (fun i hi => hi.elim))
      have HK1 : Hid (Keep (Chp g c.pg) w w1) := Lib.hid (hk.mono (fun i hi => hi.elim))
      clear h1 h2 h3 hk h5
      obtain ⟨bb, hbb⟩ : ∃ bb, bb = decide (0 < kc ∧ kw = 0) := ⟨_, rfl⟩
      have HBb := Lib.hid hbb
      clear hbb
      go_upto_region 8 with fail
      go_cut [43] (fun s43 wx => s43 = .bool bb ∧ wx = w1)
      case first =>
        by_cases hp : 0 < kc
        · by_cases hw : kw = 0
          · have b1 : (kw == 0) = true := by simp [hw]
            have HE : Hid (bb = true) := Lib.hid (by rw [HBb.out]; exact decide_eq_true ⟨hp, hw⟩)
            clear hw
            go_wp2_with fail
            go_meet
            exact ⟨by rw [HE.out], rfl⟩
          · have b1 : (kw == 0) = false := by simp [hw]
            have HE : Hid (bb = false) := Lib.hid (by rw [HBb.out]; exact decide_eq_false (fun k => hw k.2))
            clear hw
            go_wp2_with fail
            go_meet
            exact ⟨by rw [HE.out], rfl⟩
        · have b1 : decide (0 < kc) = false := decide_eq_false hp
          have HE : Hid (bb = false) := Lib.hid (by rw [HBb.out]; exact decide_eq_false (fun k => hp k.1))
          clear hp
          go_wp2_with fail
          go_meet
          exact ⟨by rw [HE.out], rfl⟩
      case rest =>
        obtain ⟨rfl, hwc⟩ := hcut
        obtain ⟨w2, hw2⟩ : ∃ w2, w2 = wc := ⟨_, rfl⟩
        subst hw2
        subst hwc
        go_upto_if 43 with fail
        go_cut [9] (fun s9 wx => s9 = .int .i64 f ∧ wx = w2)
        case first =>
          cases bb with
          | true =>
            have HE : Hid (f = m) := Lib.hid (HF0.out.trans (if_pos (of_decide_eq_true HBb.out.symm)))
            go_wp2_with fail
            go_meet
            exact ⟨by rw [HE.out], rfl⟩
          | false =>
            have HE : Hid (f = 0) := Lib.hid (HF0.out.trans (if_neg (of_decide_eq_false HBb.out.symm)))
            go_wp2_with fail
            go_meet
            exact ⟨by rw [HE.out]; rfl, rfl⟩
        case rest =>
          obtain ⟨rfl, hwc⟩ := hcut
          obtain ⟨w3, hw3⟩ : ∃ w3, w3 = wc := ⟨_, rfl⟩
          subst hw3
          subst hwc
          obtain ⟨k, hk⟩ : ∃ k : Nat, nxt kc = k := ⟨(nxt kc).toNat, by have := HNx.out.1; omega⟩
          have hk1 : k ≤ 65535 := by have := HNx.out.2; omega
          have HKk := Lib.hid hk
          obtain ⟨K, hK⟩ : ∃ K, K = pagesOf xs := ⟨_, rfl⟩
          have hK8 : 8 * K ≤ n + 7 ∧ n ≤ 8 * K := by
            rw [hK]
            unfold pagesOf
            rw [← HN.out]
            omega
          obtain ⟨hK1, hK2⟩ := hK8
          obtain ⟨b1, c1, hw1⟩ : ∃ b1 c1, c.write (f : Int) (fun _ => 0) = (b1, c1) := ⟨_, _, rfl⟩
          obtain ⟨b5, c5, hgo⟩ : ∃ b5 c5, putsGo f xs K 0 c1 = (b5, c5) := ⟨_, _, rfl⟩
          obtain ⟨b6, c6, hw6⟩ : ∃ b6 c6, c5.write (f : Int) (headB k xs) = (b6, c6) := ⟨_, _, rfl⟩
          have HPf : Hid (putsF c f (nxt kc) xs = if b1 then (if b5 then (b6, c6) else (false, c5)) else (false, c1)) := Lib.hid (by
            unfold putsF
            rw [hk, hw1]
            simp only
            rw [← hK, hgo]
            simp only
            rw [hw6])
          have HW1 := Lib.hid hw1
          have HGo := Lib.hid hgo
          have HW6 := Lib.hid hw6
          have HKK := Lib.hid hK
          clear hw1 hgo hw6 hK HF0 HBb HKr
          go_wp2_with fail
          refine (DNext_any kc kc0 kc1 _).mono ?_
          rintro e w' ⟨rfl, rfl⟩
          rw [hk]
          clear hk
          go_wp2_with fail
          refine (DWrite_h HC1.out (f : Int) (fun _ => 0) zeros_ok c.pg rfl b1 c1 HW1.out).mono ?_
          rintro e w4 ⟨rfl, HP⟩
          have HK4 : Hid (Keep (Chp g c.pg) w w4) := Lib.hid (HK1.out.trans HP.out.2.2.2 (fun i hi => .inl hi))
          have HX4 : Hid (Srd w4 g c.pg A d xs) := Lib.hid (HX1.out.keep HP.out.2.2.2 (fun i hi => hi))
          cases b1 with
          | false =>
            have HE : Hid (saveF c xs = (6, c1)) := Lib.hid (by rw [HF1.out, HPf.out]; rfl)
            go_wp2_with fail
            go_ret
            rw [HE.out]
            exact ⟨rfl, HP.out.1, HK4.out, HP.out.2.1⟩
          | true =>
            have HPg : Hid (putsF c f (nxt kc) xs = if b5 then (b6, c6) else (false, c5)) := Lib.hid (by rw [HPf.out]; rfl)
            clear HPf
            go_wp2_with fail
            go_loopg [10] K (fun q s10 wr => ∃ (j : Nat) (cj : Ch), j ≤ K ∧ q = K - j ∧ s10 = .int .i64 ((8 * j : Nat) : Int) ∧ Hid (IsDc wr g cj ∧ cj.pg = c.pg ∧ Keep (Chp g c.pg) w wr ∧ Srd wr g c.pg A d xs ∧ putsGo f xs (K - j) j cj = (b5, c5)))
            case atStart => exact ⟨0, c1, Nat.zero_le _, rfl, rfl, HP.out.1, HP.out.2.1, HK4.out, HX4.out, HGo.out⟩
            case round =>
              obtain ⟨j, cj, hj, hq, rfl, HC⟩ := hrel
              have HMq := Lib.hid hq
              clear hq
              obtain ⟨wo, hwo⟩ : ∃ x, x = wr := ⟨_, rfl⟩
              subst hwo
              by_cases hlt : j < K
              · obtain ⟨J, hJ⟩ : ∃ J, J = 8 * j := ⟨_, rfl⟩
                rw [← hJ]
                have h1 : (J : Int) < (n : Int) := by omega
                have hd1 : (J : Int).tdiv 8 = (j : Int) := by rw [Int.tdiv_eq_ediv_of_nonneg (by omega)]; omega
                have hd2 : (J : Int) / 8 = (j : Int) := by omega
                have hJb : J ≤ 300000 := by omega
                have HJ := Lib.hid hJ
                clear hJ
                go_wp2_with fail
                go_loopg [12] 8 (fun q s12 wi => ∃ x : Nat, x ≤ 8 ∧ q = 8 - x ∧ s12 = .int .i64 x ∧ Hid (Blk wi wo.heap.size (pageC (partP xs j x)) 44 ∧ Keep Own.Zero wo wi))
                case atStart => exact ⟨0, by omega, rfl, rfl, Blk.new wo _ _, (Keep.refl Own.Zero wo).alloc _⟩
                case round =>
                  obtain ⟨x, hx, hqx, rfl, HBx⟩ := hrel
                  have HQx := Lib.hid hqx
                  clear hqx
                  obtain ⟨X, hXw⟩ : ∃ X, X = wr := ⟨_, rfl⟩
                  subst hXw
                  by_cases hxx : x < 8 ∧ J + x < n
                  · obtain ⟨hx8, hxn⟩ := hxx
                    have hx1 : (x : Int) < 8 := by omega
                    have hx0 : (0 : Int) ≤ (x : Int) := by omega
                    obtain ⟨pp, hpp⟩ : ∃ pp, pp = J + x := ⟨_, rfl⟩
                    have hw2 : (J : Int) + (x : Int) = (pp : Int) := by omega
                    have hpn : pp < n := by omega
                    have hpi : (pp : Int) < (n : Int) := by omega
                    have HPp := Lib.hid hpp
                    obtain ⟨y, hy⟩ : ∃ y, xs[pp]? = some y := ⟨xs[pp]'(by rw [← HN.out]; exact hpn), List.getElem?_eq_getElem _⟩
                    have HXX : Hid (Srd X g c.pg A d xs) := Lib.hid (HC.out.2.2.2.1.keep HBx.out.2 (fun i hi => hi.elim))
                    obtain ⟨bA, oA, hA, lA, gA⟩ := HXX.out.row pp (.int .u8 y) (by rw [ints_get, hy]; rfl)
                    have HY : Hid (pageOf xs j x = y) := Lib.hid (by rw [pageOf_at, ← HJ.out, ← HPp.out, List.getD_eq_getElem?_getD, hy]; rfl)
                    have HA := Lib.hid hA
                    have zc := HBx.out.1.cell x
                    rw [partP_cell _ _ _ hx8] at zc
                    have zf := HBx.out.1.frozen x
                    clear hy hpp hA
                    rw [HA.out]
                    go_wp2_with fail
                    rw [← HA.out]
                    have HB2 : Hid (Blk (X.setCell ⟨wo.heap.size, x, none⟩ (.int .u8 y)) wo.heap.size (pageC (partP xs j (x + 1))) 44) := Lib.hid ((HBx.out.1.set x (.int .u8 y)).cast (partP_set xs j x hx8 y HY.out))
                    have HK2 : Hid (Keep Own.Zero wo (X.setCell ⟨wo.heap.size, x, none⟩ (.int .u8 y))) := Lib.hid (HBx.out.2.set (.inr (Nat.le_refl _)) _)
                    go_roundg (8 - (x + 1))
                    case measure => rw [HQx.out]; omega
                    case rel => exact ⟨x + 1, by omega, rfl, by go_num, HB2.out, HK2.out⟩
                  · have HFull : Hid (Blk X wo.heap.size (pageC (pageOf xs j)) 44) := Lib.hid (HBx.out.1.cast (by
                      have h8 : ∀ r, r < 8 → partP xs j x r = pageOf xs j r := partP_full xs j x (by rw [← HN.out, ← HJ.out]; omega)
                      unfold pageC
                      rw [h8 0 (by omega), h8 1 (by omega), h8 2 (by omega), h8 3 (by omega), h8 4 (by omega), h8 5 (by omega), h8 6 (by omega), h8 7 (by omega)]))
                    obtain ⟨F, hF⟩ : ∃ F, F = pageOf xs j := ⟨_, rfl⟩
                    rw [← hF] at HFull
                    have HFf := Lib.hid hF
                    have HFb : Hid (∀ i, 0 ≤ F i ∧ F i ≤ 255) := Lib.hid (fun i => by rw [hF, pageOf_at]; exact getD_bound HB.out _)
                    have y0 : X.cell? ⟨wo.heap.size, 0, none⟩ = some (.int .u8 (F 0)) := HFull.out.cell 0
                    have y1 : X.cell? ⟨wo.heap.size, 1, none⟩ = some (.int .u8 (F 1)) := HFull.out.cell 1
                    have y2 : X.cell? ⟨wo.heap.size, 2, none⟩ = some (.int .u8 (F 2)) := HFull.out.cell 2
                    have y3 : X.cell? ⟨wo.heap.size, 3, none⟩ = some (.int .u8 (F 3)) := HFull.out.cell 3
                    have y4 : X.cell? ⟨wo.heap.size, 4, none⟩ = some (.int .u8 (F 4)) := HFull.out.cell 4
                    have y5 : X.cell? ⟨wo.heap.size, 5, none⟩ = some (.int .u8 (F 5)) := HFull.out.cell 5
                    have y6 : X.cell? ⟨wo.heap.size, 6, none⟩ = some (.int .u8 (F 6)) := HFull.out.cell 6
                    have y7 : X.cell? ⟨wo.heap.size, 7, none⟩ = some (.int .u8 (F 7)) := HFull.out.cell 7
                    have HKX : Hid (Keep Zero wo X) := Lib.hid HBx.out.2
                    have HDX : Hid (IsDc X g cj) := Lib.hid (HC.out.1.keep HKX.out id id)
                    have HSX : Hid (Srd X g c.pg A d xs) := Lib.hid (HC.out.2.2.2.1.keep HKX.out (fun i hi => hi.elim))
                    have HKg : Hid (Keep (Chp g c.pg) w X) := Lib.hid (HC.out.2.2.1.trans HKX.out (fun i hi => hi.elim))
                    obtain ⟨b7, c7, hw7⟩ : ∃ b7 c7, cj.write ((f : Int) + ((j : Int) + 1)) F = (b7, c7) := ⟨_, _, rfl⟩
                    have HW7 := Lib.hid hw7
                    have HGo7 : Hid ((b5, c5) = if b7 then putsGo f xs (K - (j + 1)) (j + 1) c7 else (false, c7)) := Lib.hid (by
                      rw [← HC.out.2.2.2.2, show K - j = (K - (j + 1)) + 1 by omega]
                      rw [putsGo_succ, ← hF, hw7])
                    have hxor : x = 8 ∨ (x < 8 ∧ ¬ J + x < n) := by omega
                    clear hF hw7 hxx HBx
                    rcases hxor with rfl | ⟨hx8, hxn⟩
                    · have hx1 : ¬ ((8 : Nat) : Int) < 8 := by decide
                      go_wp2_with fail
                      rw [show (f : Int) + 1 + (j : Int) = (f : Int) + ((j : Int) + 1) by omega]
                      refine (DWrite_h HDX.out _ F HFb.out c.pg HC.out.2.1 b7 c7 HW7.out).mono ?_
                      rintro e w7 ⟨rfl, HP7⟩
                      have HK7 : Hid (Keep (Chp g c.pg) w w7) := Lib.hid (HKg.out.trans HP7.out.2.2.2 (fun i hi => .inl hi))
                      have HX7 : Hid (Srd w7 g c.pg A d xs) := Lib.hid (HSX.out.keep HP7.out.2.2.2 (fun i hi => hi))
                      cases b7 with
                      | false =>
                        have HE : Hid (saveF c xs = (6, c7)) := Lib.hid (by
                          have h := HGo7.out
                          simp only [Bool.false_eq_true, if_false, Prod.mk.injEq] at h
                          rw [HF1.out, HPg.out, h.1, h.2]
                          rfl)
                        go_wp2_with fail
                        go_ret
                        rw [HE.out]
                        exact ⟨rfl, HP7.out.1, HK7.out, HP7.out.2.1⟩
                      | true =>
                        have HG7 : Hid (putsGo f xs (K - (j + 1)) (j + 1) c7 = (b5, c5)) := Lib.hid (by rw [HGo7.out]; rfl)
                        go_wp2_with fail
                        go_roundg (K - (j + 1))
                        case measure => rw [HMq.out]; omega
                        case rel => exact ⟨j + 1, c7, hlt, rfl, by first | (rw [HJ.out]; done) | (rw [HJ.out]; congr 1; done) | (rw [HJ.out]; congr 1; omega), HP7.out.1, HP7.out.2.1, HK7.out, HX7.out, HG7.out⟩
                    · have hx1 : (x : Int) < 8 := by omega
                      have hx2 : ¬ (J : Int) + (x : Int) < (n : Int) := by omega
                      go_wp2_with fail
                      rw [show (f : Int) + 1 + (j : Int) = (f : Int) + ((j : Int) + 1) by omega]
                      refine (DWrite_h HDX.out _ F HFb.out c.pg HC.out.2.1 b7 c7 HW7.out).mono ?_
                      rintro e w7 ⟨rfl, HP7⟩
                      have HK7 : Hid (Keep (Chp g c.pg) w w7) := Lib.hid (HKg.out.trans HP7.out.2.2.2 (fun i hi => .inl hi))
                      have HX7 : Hid (Srd w7 g c.pg A d xs) := Lib.hid (HSX.out.keep HP7.out.2.2.2 (fun i hi => hi))
                      cases b7 with
                      | false =>
                        have HE : Hid (saveF c xs = (6, c7)) := Lib.hid (by
                          have h := HGo7.out
                          simp only [Bool.false_eq_true, if_false, Prod.mk.injEq] at h
                          rw [HF1.out, HPg.out, h.1, h.2]
                          rfl)
                        go_wp2_with fail
                        go_ret
                        rw [HE.out]
                        exact ⟨rfl, HP7.out.1, HK7.out, HP7.out.2.1⟩
                      | true =>
                        have HG7 : Hid (putsGo f xs (K - (j + 1)) (j + 1) c7 = (b5, c5)) := Lib.hid (by rw [HGo7.out]; rfl)
                        go_wp2_with fail
                        go_roundg (K - (j + 1))
                        case measure => rw [HMq.out]; omega
                        case rel => exact ⟨j + 1, c7, hlt, rfl, by first | (rw [HJ.out]; done) | (rw [HJ.out]; congr 1; done) | (rw [HJ.out]; congr 1; omega), HP7.out.1, HP7.out.2.1, HK7.out, HX7.out, HG7.out⟩
              · obtain rfl : j = K := by omega
                obtain ⟨J, hJ⟩ : ∃ J, J = 8 * j := ⟨_, rfl⟩
                rw [← hJ]
                have h1 : ¬ (J : Int) < (n : Int) := by omega
                obtain ⟨s, hs⟩ : ∃ s, s = crc (headL k n ++ xs) := ⟨_, rfl⟩
                have HGoE : Hid (b5 = true ∧ c5 = cj) := Lib.hid (by
                  have h := HC.out.2.2.2.2
                  rw [Nat.sub_self] at h
                  unfold putsGo at h
                  cases h
                  exact ⟨rfl, rfl⟩)
                have hsl : s < 65536 := by
                  rw [hs]
                  refine crc_lt (fun x hx => ?_)
                  rcases List.mem_append.1 hx with h | h
                  · unfold headL at h
                    simp only [List.mem_cons, List.not_mem_nil, or_false] at h
                    omega
                  · exact HB.out x h
                have HS := Lib.hid hs
                have HE : Hid (saveF c xs = (if b6 then 0 else 6, c6)) := Lib.hid (by
                  rw [HF1.out, HPg.out, HGoE.out.1]
                  rfl)
                have HW6' : Hid (cj.write (f : Int) (headB k xs) = (b6, c6)) := Lib.hid (by rw [← HGoE.out.2]; exact HW6.out)
                clear hJ hs
                go_wp2_with fail
                refine (DSum_s k n hk1 (by omega) A d xs HN.out.symm HC.out.2.2.2.1.row HC.out.2.2.2.1.nil HB.out s HS.out).mono ?_
                rintro e w7 ⟨rfl, HK7⟩
                have HD7 : Hid (∀ o, IsDc (w7.alloc o) g cj) := Lib.hid (fun o => (HC.out.1.keep HK7.out id id).keep ((Keep.refl Zero w7).alloc o) id id)
                have HKw7 : Hid (∀ o, Keep (Chp g c.pg) w (w7.alloc o)) := Lib.hid (fun o => (HC.out.2.2.1.trans HK7.out (fun i hi => hi.elim)).alloc o)
                have t1 : (k : Int).tmod 256 = (k : Int) % 256 := Int.tmod_eq_emod_of_nonneg (by omega)
                have t2 : (k : Int).tdiv 256 = (k : Int) / 256 := Int.tdiv_eq_ediv_of_nonneg (by omega)
                have t3 : (n : Int).tmod 256 = (n : Int) % 256 := Int.tmod_eq_emod_of_nonneg (by omega)
                have t4 : (n : Int).tdiv 256 = (n : Int) / 256 := Int.tdiv_eq_ediv_of_nonneg (by omega)
                have t5 : (n : Int).tdiv 65536 = (n : Int) / 65536 := Int.tdiv_eq_ediv_of_nonneg (by omega)
                have t6 : (n : Int).tdiv 16777216 = (n : Int) / 16777216 := Int.tdiv_eq_ediv_of_nonneg (by omega)
                have t7 : ((n : Int) / 256).tmod 256 = (n : Int) / 256 % 256 := Int.tmod_eq_emod_of_nonneg (by omega)
                have t8 : ((n : Int) / 65536).tmod 256 = (n : Int) / 65536 % 256 := Int.tmod_eq_emod_of_nonneg (by omega)
                have t9 : (s : Int).tmod 256 = (s : Int) % 256 := Int.tmod_eq_emod_of_nonneg (by omega)
                have t10 : (s : Int).tdiv 256 = (s : Int) / 256 := Int.tdiv_eq_ediv_of_nonneg (by omega)
                have u1 : IntKind.u8.wrap ((k : Int) % 256) = (k : Int) % 256 := by rw [IntKind.wrap_u8']; omega
                have u2 : IntKind.u8.wrap ((k : Int) / 256) = (k : Int) / 256 := by rw [IntKind.wrap_u8']; omega
                have u3 : IntKind.u8.wrap ((n : Int) % 256) = (n : Int) % 256 := by rw [IntKind.wrap_u8']; omega
                have u4 : IntKind.u8.wrap ((n : Int) / 256 % 256) = (n : Int) / 256 % 256 := by rw [IntKind.wrap_u8']; omega
                have u5 : IntKind.u8.wrap ((n : Int) / 65536 % 256) = (n : Int) / 65536 % 256 := by rw [IntKind.wrap_u8']; omega
                have u6 : IntKind.u8.wrap ((n : Int) / 16777216) = (n : Int) / 16777216 % 256 := IntKind.wrap_u8' _
                have u7 : IntKind.u8.wrap ((s : Int) % 256) = (s : Int) % 256 := by rw [IntKind.wrap_u8']; omega
                have u8' : IntKind.u8.wrap ((s : Int) / 256) = (s : Int) / 256 := by rw [IntKind.wrap_u8']; omega
                have hcall := fun o => DWrite_h (HD7.out o) (f : Int) (headB k xs) (headB_bound hk1 HB.out) c.pg HC.out.2.1 b6 c6 HW6'.out
                have q0 : headB k xs 0 = (k : Int) % 256 := rfl
                have q1 : headB k xs 1 = (k : Int) / 256 := rfl
                have q2 : headB k xs 2 = (n : Int) % 256 := by rw [HN.out]; rfl
                have q3 : headB k xs 3 = (n : Int) / 256 % 256 := by rw [HN.out]; rfl
                have q4 : headB k xs 4 = (n : Int) / 65536 % 256 := by rw [HN.out]; rfl
                have q5 : headB k xs 5 = (n : Int) / 16777216 % 256 := by rw [HN.out]; rfl
                have q6 : headB k xs 6 = (s : Int) % 256 := by rw [HS.out, HN.out]; rfl
                have q7 : headB k xs 7 = (s : Int) / 256 := by rw [HS.out, HN.out]; rfl
                rw [q0, q1, q2, q3, q4, q5, q6, q7] at hcall
                have HCall := Lib.hid hcall
                clear hcall q0 q1 q2 q3 q4 q5 q6 q7
                go_wp2_with fail
                refine (HCall.out _).mono ?_
                rintro e w8 ⟨rfl, HP8⟩
                have HK8 : Hid (Keep (Chp g c.pg) w w8) := Lib.hid ((HKw7.out _).trans HP8.out.2.2.2 (fun i hi => .inl hi))
                cases b6 with
                | true =>
                  go_wp2_with fail
                  go_ret
                  rw [HE.out]
                  exact ⟨rfl, HP8.out.1, HK8.out, HP8.out.2.1⟩
                | false =>
                  go_wp2_with fail
                  go_ret
                  rw [HE.out]
                  exact ⟨rfl, HP8.out.1, HK8.out, HP8.out.2.1⟩
end Go.Proofs.Ytgegpeicpbhnkaa.Nvm
