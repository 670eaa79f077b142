/- SyncWindow's walk. -/
import Derived.Test.YtmaajpkkdpaeeaaSyncF
namespace Go.Proofs.Ytmaajpkkdpaeeaa.Sync
open Go.RowKit Go.Proofs.Ytmaajpkkdpaeeaa.Own
def Wi (v j s : Int) : Co := ⟨0, v, 0, j, 0, s⟩
theorem Take_w {w : World} {g : Nat} {v j s : Int} (h : IsCo 68 w g (Wi v j s)) (j0 : 0 ≤ j) (j1 : j ≤ 1000000000000000) :
    Calls Try.prog 13 #[.pointer (some ⟨g, 0, none⟩), .int .i64 0] w fun e w' => e = .returned (.int .i64 0) ∧ IsCo 68 w' g (Wi v (j + 1) 0) ∧ Keep (Own.One g) w w' := by
  refine (Take_yes h (by simp [Wi, Cnt]) j0 j1 (by simp [Wi]) (by simp [Wi]) 0 (by simp [Wi, Fits])).mono ?_
  rintro e w' ⟨⟨r, he, hr⟩, h1, h2⟩
  have hr := hr.out
  rw [if_pos (.inr rfl)] at hr h1
  refine ⟨by rw [he, hr], ?_, h2⟩
  have e1 : after 0 (Wi v j s).ov = 0 := by simp [Wi, after]
  rw [e1] at h1
  exact h1
theorem Open_w {w : World} {g : Nat} {v j s : Int} (h : IsCo 68 w g (Wi v j s)) (b : Bool) (hb : (decide (0 < j) && (decide (v = 0) || decide (s < v))) = b) :
    Calls Try.prog 20 #[.pointer (some ⟨g, 0, none⟩)] w fun e w' => e = .returned (.bool b) ∧ Keep Zero w w' := Open_keep h b hb
theorem Tick_w {w : World} {g : Nat} {v j s : Int} (h : IsCo 68 w g (Wi v j s)) (s0 : 0 ≤ s) (s1 : s ≤ 1000) :
    Calls Try.prog 21 #[.pointer (some ⟨g, 0, none⟩), .int .u64 1] w fun e w' => e = .returned (.tuple #[]) ∧ IsCo 68 w' g (Wi v j (s + 1)) ∧ Keep (Own.One g) w w' := by
  refine (CTick_any h s0 (by simp only [Wi]; omega) 1 (by decide) (by decide)).mono ?_
  rintro e w' ⟨he, h1, h2⟩
  refine ⟨he, ?_, h2⟩
  have e1 : min ((Wi v j s).since + 1) 18446744073709551615 = s + 1 := by simp only [Wi]; omega
  rw [e1] at h1
  exact h1
set_option maxRecDepth 100000 in
set_option maxHeartbeats 8000000 in
theorem window_walk (q : Int) (q0 : 0 ≤ q) (q1 : q ≤ 255) (A : Option Addr) (c : Nat) (xs : List Int) (hx : ∀ x ∈ xs, 0 ≤ x ∧ x ≤ 255) (w : World) (hr : Row w A (ints .u8 xs)) (hl : xs.length ≤ 140737488355328) :
    Calls Try.prog 6 #[.int .u8 q, .slice A xs.length c] w fun e w' => e = .returned (.bool true) ∧ Keep Zero w w' := by
  have HX := Lib.hid hx
  have HA := Lib.hid hr
  obtain ⟨v, hv⟩ : ∃ v, v = 1 + q := ⟨_, rfl⟩
  have v0 : 1 ≤ v := by omega
  have v1 : v ≤ 256 := by omega
  have HV := Lib.hid hv
  clear hx hr hv
  go_enter Try.func6, Try.ntmps6
  go_wp2_with fail
  rw [← HV.out]
  refine (NewC_ok 0 v (by decide) (by omega) _).mono ?_
  rintro e w1 ⟨g, rfl, hd, hg, hk⟩
  have HC1 : Hid (IsCo 68 w1 g (Wi v 0 0)) := Lib.hid hd
  have HK1 := Lib.hid hk
  have HG := Lib.hid hg
  clear hd hk hg
  go_wp2_with fail
  refine (Open_w HC1.out false rfl).mono ?_
  rintro e w2 ⟨rfl, hk⟩
  have HC2 := Lib.hid (HC1.out.keep hk id)
  have HK2 := Lib.hid (HK1.out.trans hk (fun i hi => hi.elim))
  clear hk HC1 HK1
  go_wp2_with fail
  go_loopg [8] xs.length (fun k i wr => ∃ (j : Nat) (s : Int), j ≤ xs.length ∧ k = xs.length - j ∧ i = .int .i64 j ∧ IsCo 68 wr g (Wi v j s) ∧ Keep Zero w wr)
  case atStart => exact ⟨0, 0, Nat.zero_le _, rfl, rfl, HC2.out, HK2.out⟩
  case round =>
    obtain ⟨j, s, hj, hk, rfl, hc, hkp⟩ := hrel
    clear HC2 HK2
    have HM := Lib.hid hk
    have HC := Lib.hid hc
    have HK := Lib.hid hkp
    clear hk hc hkp
    by_cases hlt : j < xs.length
    · obtain ⟨x, hxj⟩ : ∃ x, xs[j]? = some x := ⟨xs[j], List.getElem?_eq_getElem hlt⟩
      obtain ⟨x0, x1⟩ := HX.out x (List.mem_of_getElem? hxj)
      obtain ⟨b, o, rfl, hb, hc0⟩ := HA.out j (.int .u8 x) (by rw [ints_get, hxj]; rfl)
      have HCell := Lib.hid hc0
      have h1 : (j : Int) < (xs.length : Int) := by omega
      have h0 : (0 : Int) ≤ (j : Int) := by omega
      clear hxj hc0
      go_wp2_with fail
      refine (Take_w HC.out (by omega) (by omega)).mono ?_
      rintro e w3 ⟨rfl, hc, hk⟩
      have HC3 := Lib.hid hc
      have HK3 := Lib.hid (HK.out.trans hk (fun i hi => .inr (by have := HG.out; unfold Own.One at hi; omega)))
      clear hc hk HC HK
      go_wp2_with fail
      refine (Open_w HC3.out true (by simp; omega)).mono ?_
      rintro e w4 ⟨rfl, hk⟩
      have HC4 := Lib.hid (HC3.out.keep hk id)
      have HK4 := Lib.hid (HK3.out.trans hk (fun i hi => hi.elim))
      clear hk HC3 HK3
      go_wp2_with fail
      go_loopg [9] (x.toNat + 2) (fun k i wr' => ∃ (m : Nat), m ≤ x.toNat ∧ k = x.toNat + 2 - m ∧ i = .int .u64 ((m : Int) + 1) ∧ IsCo 68 wr' g (Wi v (j + 1) m) ∧ Keep Zero w wr')
      case atStart => exact ⟨0, Nat.zero_le _, rfl, rfl, HC4.out, HK4.out⟩
      case round =>
        obtain ⟨m, hm, hk, rfl, hc, hkp⟩ := hrel
        clear HC4 HK4
        have HN := Lib.hid hk
        have HC := Lib.hid hc
        have HK := Lib.hid hkp
        have hcell := (HK.out.cell (p := ⟨b, o + j, none⟩) hb id).trans HCell.out
        clear hk hc hkp
        by_cases hmt : (m : Int) + 1 ≤ x
        · obtain ⟨t, ht⟩ : ∃ t, decide ((m : Int) + 1 < v) = t := ⟨_, rfl⟩
          have HT := Lib.hid ht
          have bt : (t != t) = false := by simp
          have ht2 : (decide (0 < (j : Int) + 1) && (decide (v = 0) || decide ((m : Int) + 1 < v))) = t := by
            rw [ht, decide_eq_true (by omega : 0 < (j : Int) + 1), decide_eq_false (by omega : ¬ v = 0)]
            simp
          have HT2 := Lib.hid ht2
          clear ht2
          go_wp2_with fail
          refine (Tick_w HC.out (by omega) (by omega)).mono ?_
          rintro e w5 ⟨rfl, hc, hk⟩
          have HC5 := Lib.hid hc
          have HK5 := Lib.hid (HK.out.trans hk (fun i hi => .inr (by have := HG.out; unfold Own.One at hi; omega)))
          clear hc hk
          go_wp2_with fail
          refine (Open_w HC5.out t HT2.out).mono ?_
          rintro e w6 ⟨rfl, hk⟩
          have HC6 := Lib.hid (HC5.out.keep hk id)
          have HK6 := Lib.hid (HK5.out.trans hk (fun i hi => hi.elim))
          clear hk
          go_wp2_with fail
          go_roundg (x.toNat + 2 - (m + 1))
          case measure => rw [HN.out]; omega
          case rel => exact ⟨m + 1, by omega, rfl, by go_num, by have := HC6.out; exact this, HK6.out⟩
        · go_wp2_with fail
          go_roundg (xs.length - (j + 1))
          case measure => rw [HM.out]; omega
          case rel => exact ⟨j + 1, m, hlt, rfl, by go_num, HC.out, HK.out⟩
    · have hjn : j = xs.length := by omega
      have b1 : ((j : Int) == (xs.length : Int)) = true := by simp [hjn]
      have h1 : ¬ (j : Int) < (xs.length : Int) := by omega
      clear hlt hjn
      go_wp2_with fail
      refine (Cycle_any HC.out).mono ?_
      rintro e w' ⟨rfl, rfl⟩
      have HCy : (Wi v j s).cycle = (j : Int) := rfl
      go_wp2_with ((with_reducible refine (lives_any _).mono ?_); rintro e w' ⟨rfl, hk⟩)
      go_ret
      rename_i hk
      exact ⟨rfl, HK.out.trans hk.out (fun i hi => hi.elim)⟩
end Go.Proofs.Ytmaajpkkdpaeeaa.Sync
