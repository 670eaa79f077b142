/- NvmActs: a chip's pages, and the store in it, are what the document says, call by call. -/
import Derived.Test.YtgegpeicpbhnkaaNvmZU
namespace Go.Proofs.Ytgegpeicpbhnkaa.Nvm
open Go.RowKit Go.Proofs.Ytgegpeicpbhnkaa.Own Go.Proofs.Ytgegpeicpbhnkaa.Crc
structure NAct where
  kind : Int
  n : Int
  k : Int
  F : Nat → Int
  bs : List Int
def NActsAt (w : World) (A : Option Addr) (l : List NAct) : Prop := ∀ i x, l[i]? = some x → ∃ b o B cb, A = some ⟨b, o, none⟩ ∧ b < w.heap.size ∧ In w B cb x.bs ∧ x.bs.length ≤ cb ∧ x.k ≤ 9223372036854775807 ∧ (∀ i, 0 ≤ x.F i ∧ x.F i ≤ 255) ∧
  w.cell? ⟨b, o + i * 12, none⟩ = some (.int .i64 x.kind) ∧ w.cell? ⟨b, o + i * 12 + 1, none⟩ = some (.int .i64 x.n) ∧ w.cell? ⟨b, o + i * 12 + 2, none⟩ = some (.int .i64 x.k) ∧
  w.cell? ⟨b, o + i * 12 + 3, none⟩ = some (.int .u8 (x.F 0)) ∧ w.cell? ⟨b, o + i * 12 + 4, none⟩ = some (.int .u8 (x.F 1)) ∧ w.cell? ⟨b, o + i * 12 + 5, none⟩ = some (.int .u8 (x.F 2)) ∧ w.cell? ⟨b, o + i * 12 + 6, none⟩ = some (.int .u8 (x.F 3)) ∧
  w.cell? ⟨b, o + i * 12 + 7, none⟩ = some (.int .u8 (x.F 4)) ∧ w.cell? ⟨b, o + i * 12 + 8, none⟩ = some (.int .u8 (x.F 5)) ∧ w.cell? ⟨b, o + i * 12 + 9, none⟩ = some (.int .u8 (x.F 6)) ∧ w.cell? ⟨b, o + i * 12 + 10, none⟩ = some (.int .u8 (x.F 7)) ∧
  w.cell? ⟨b, o + i * 12 + 11, none⟩ = some (.slice B x.bs.length cb)
set_option maxRecDepth 100000 in
set_option maxHeartbeats 8000000 in
theorem acts_ok (n : Nat) (h0 : 4 ≤ n) (h1 : n ≤ 32768) (A : Option Addr) (ca : Nat) (l : List NAct) (w : World) (hA : NActsAt w A l) (hl : l.length ≤ 9000000000000) :
    Calls Try.prog 7 #[.int .i64 n, .slice A l.length ca] w fun e w' => e = .returned (.bool true) ∧ Keep Own.Zero w w' := by
  have HA := Lib.hid hA
  obtain ⟨L, hL⟩ : ∃ L, L = l.length := ⟨_, rfl⟩
  have HL := Lib.hid hL
  rw [← hL]
  rw [← hL] at hl
  clear hA hL
  go_enter Try.func7, Try.ntmps7
  go_wp2_with fail
  refine (New_ok n h0 h1 _).mono ?_
  rintro e w1 ⟨g, p, rfl, hc, hg, hp, hk⟩
  have HC1 := Lib.hid hc
  have HK1 := Lib.hid hk
  have HG := Lib.hid (And.intro hg hp)
  have hgl := hc.chip.lt
  have hpl : p < w1.heap.size := hc.pages.lt
  have HLt := Lib.hid (And.intro hgl hpl)
  clear hc hk hg hp hgl hpl
  go_wp2_with fail
  refine (DNew_ok n h0 h1 _).mono ?_
  rintro e w2 ⟨d, q, rfl, hc, hd, hq, hk⟩
  have HS : Hid (SD w w2 g p d q (Ch.new p n)) := Lib.hid {
    ch := HC1.out.keep hk id id
    dc := hc
    pg := rfl
    kp := HK1.out.trans hk (fun i hi => hi.elim)
    g0 := HG.out.1
    p0 := HG.out.2
    d0 := Nat.le_trans HK1.out.size hd
    q0 := Nat.le_trans HK1.out.size hq
    gd := by have := HLt.out; omega
    gq := by have := HLt.out; omega
    pd := by have := HLt.out; omega
    pq := by have := HLt.out; omega }
  clear hc hd hq hk
  go_wp2_with fail
  go_loopg [11] L (fun k s11 wr => ∃ (j : Nat) (c : Ch), j ≤ L ∧ k = L - j ∧ s11 = .int .i64 j ∧ Hid (SD w wr g p d q c))
  case atStart => exact ⟨0, _, by omega, rfl, rfl, HS⟩
  case round =>
    obtain ⟨j, c, hj, hk, rfl, HT⟩ := hrel
    have HM := Lib.hid hk
    clear hk
    by_cases hlt : j < L
    · have h1 : (j : Int) < (L : Int) := by omega
      have h0 : (0 : Int) ≤ (j : Int) := by omega
      obtain ⟨x, hx⟩ : ∃ x, l[j]? = some x := ⟨l[j]'(by rw [← HL.out]; exact hlt), List.getElem?_eq_getElem _⟩
      obtain ⟨b, o, B, cb, rfl, hb, hin, hcb, hxk, hxF, hc0, hc1, hc2, hc3, hc4, hc5, hc6, hc7, hc8, hc9, hc10, hc11⟩ := HA.out j x hx
      obtain ⟨kind, xn, xk, F, bs⟩ := x
      simp only at hin hcb hxk hxF hc0 hc1 hc2 hc3 hc4 hc5 hc6 hc7 hc8 hc9 hc10 hc11
      have HIn := Lib.hid hin
      obtain ⟨nb, hnb⟩ : ∃ nb, nb = bs.length := ⟨_, rfl⟩
      have HNb := Lib.hid hnb
      rw [← hnb] at hc11 hcb
      have HF := Lib.hid hxF
      have hb2 : b < wr.heap.size := Nat.lt_of_lt_of_le hb HT.out.kp.size
      have g0 := (HT.out.kp.cell (p := ⟨b, _, none⟩) hb id).trans hc0
      have g1 := (HT.out.kp.cell (p := ⟨b, _, none⟩) hb id).trans hc1
      have g2 := (HT.out.kp.cell (p := ⟨b, _, none⟩) hb id).trans hc2
      have g3 := (HT.out.kp.cell (p := ⟨b, _, none⟩) hb id).trans hc3
      have g4 := (HT.out.kp.cell (p := ⟨b, _, none⟩) hb id).trans hc4
      have g5 := (HT.out.kp.cell (p := ⟨b, _, none⟩) hb id).trans hc5
      have g6 := (HT.out.kp.cell (p := ⟨b, _, none⟩) hb id).trans hc6
      have g7 := (HT.out.kp.cell (p := ⟨b, _, none⟩) hb id).trans hc7
      have g8 := (HT.out.kp.cell (p := ⟨b, _, none⟩) hb id).trans hc8
      have g9 := (HT.out.kp.cell (p := ⟨b, _, none⟩) hb id).trans hc9
      have g10 := (HT.out.kp.cell (p := ⟨b, _, none⟩) hb id).trans hc10
      have g11 := (HT.out.kp.cell (p := ⟨b, _, none⟩) hb id).trans hc11
      have HW : Hid (nb ≤ 140737488355328) := Lib.hid (by rw [hnb]; exact hin.big)
      have HCb := Lib.hid (And.intro hcb hxk)
      clear hx hin hcb hxk hxF hc0 hc1 hc2 hc3 hc4 hc5 hc6 hc7 hc8 hc9 hc10 hc11 hnb hb
      go_wp2_with fail
      refine (does_any HT.out kind xn xk F HF.out B nb cb bs HCb.out.2 HNb.out HIn.out.row HIn.out.byte HCb.out.1 HIn.out.nil HW.out).mono ?_
      clear g0 g1 g2 g3 g4 g5 g6 g7 g8 g9 g10 g11 hb2
      rintro e w3 ⟨rfl, c3, HT3⟩
      go_wp2_with fail
      go_roundg (L - (j + 1))
      case measure => rw [HM.out]; omega
      case rel => exact ⟨j + 1, c3, hlt, rfl, by go_num, HT3⟩
    · go_wp2_with fail
      refine (same_any HT.out).mono ?_
      rintro e w3 ⟨rfl, HT3⟩
      go_wp2_with fail
      refine (lives_any _).mono ?_
      rintro e w4 ⟨rfl, hk⟩
      go_wp2_with fail
      go_ret
      exact ⟨rfl, HT3.out.kp.trans hk.out (fun i hi => hi.elim)⟩
end Go.Proofs.Ytgegpeicpbhnkaa.Nvm
