/- SyncStops's walk. -/
import Derived.Test.YtmaajpkkdpaeeaaSyncE
namespace Go.Proofs.Ytmaajpkkdpaeeaa.Sync
open Go.RowKit Go.Proofs.Ytmaajpkkdpaeeaa.Own
theorem tt_count {p : Nat} {ov : Int} (hp : 1 ≤ p) : ∀ (b m : Nat) (x : Int), m < b → (tt p ov m p x).1.length = m / p ∧ ∀ y, (tt p ov m p x).1[0]? = some y → y = x
  | 0, m, x, h => by omega
  | b + 1, m, x, h => by
    by_cases hm : m < p
    · rw [tt_less hm]
      refine ⟨?_, fun y hy => by simp at hy⟩
      rw [Nat.div_eq_of_lt hm]
      rfl
    · rw [tt_more (by omega) hp]
      refine ⟨?_, fun y hy => by simpa using hy.symm⟩
      have := (tt_count (ov := ov) hp b (m - p) (after x ov) (by omega)).1
      simp only [List.length_cons, this]
      rw [Nat.div_eq_sub_div (by omega) (by omega : p ≤ m)]
theorem c5 : Cnt 5 := by decide
set_option maxRecDepth 100000 in
set_option maxHeartbeats 4000000 in
theorem stops_walk (q n m : Int) (q0 : 0 ≤ q) (q1 : q ≤ 255) (n0 : 0 ≤ n) (n1 : n ≤ 65535) (m0 : 0 ≤ m) (m1 : m ≤ 65535) (w : World) :
    Calls Try.prog 3 #[.int .u8 q, .int .u16 n, .int .u16 m] w fun e w' => e = .returned (.bool true) ∧ Keep Zero w w' := by
  obtain ⟨p, hp⟩ : ∃ p, p = 1 + q % 20 := ⟨_, rfl⟩
  have p1 : 1 ≤ p := by omega
  have p2 : p ≤ 20 := by omega
  have HP := Lib.hid hp
  clear hp
  go_enter Try.func3, Try.ntmps3
  go_wp2_with fail
  rw [← HP.out]
  refine (NewP_ok p 5 p1 (by omega) (by decide) _).mono ?_
  rintro e w1 ⟨g, rfl, hd, hg, hk⟩
  have HD1 := Lib.hid hd
  have HK1 := Lib.hid hk
  clear hd hk
  go_wp2_with fail
  refine (Start_any HD1.out c5 true).mono ?_
  rintro e w2 ⟨rfl, hd, hk⟩
  have HD2 : Hid (IsPr w2 g ⟨p, 5, true, p, 1⟩) := Lib.hid hd
  have HK2 := Lib.hid (HK1.out.trans hk (fun i hi => .inr (by unfold Own.One at hi; omega)))
  clear hd hk HD1 HK1
  go_wp2_with fail
  refine (Tick_on HD2.out rfl ⟨p1, by simp only; omega, c5, by simp only; omega, Int.le_refl _, (by decide : (0 : Int) ≤ 1), (by decide : (1 : Int) ≤ 240), fun _ => p1⟩ n n0 n (by omega)).mono ?_
  rintro e w3 ⟨v, rfl, ⟨A, c, rfl, _, _, _⟩, hd, hk⟩
  have HD3 := Lib.hid hd
  have HK3 := Lib.hid (HK2.out.trans hk (fun i hi => .inr (by unfold Own.One at hi; omega)))
  clear hd hk HD2 HK2
  go_wp2_with fail
  refine (Start_any HD3.out c5 false).mono ?_
  rintro e w4 ⟨rfl, hd, hk⟩
  have HD4 := Lib.hid hd
  have HK4 := Lib.hid (HK3.out.trans hk (fun i hi => .inr (by unfold Own.One at hi; omega)))
  clear hd hk HD3 HK3
  go_wp2_with fail
  refine (Tick_off HD4.out rfl m).mono ?_
  rintro e w' ⟨rfl, rfl⟩
  go_wp2_with fail
  refine (Start_any HD4.out c5 true).mono ?_
  rintro e w5 ⟨rfl, hd, hk⟩
  have HD5 : Hid (IsPr w5 g ⟨p, 5, true, p, 1⟩) := Lib.hid hd
  have HK5 := Lib.hid (HK4.out.trans hk (fun i hi => .inr (by unfold Own.One at hi; omega)))
  clear hd hk HD4 HK4
  go_wp2_with fail
  refine (Tick_on HD5.out rfl ⟨p1, by simp only; omega, c5, by simp only; omega, Int.le_refl _, (by decide : (0 : Int) ≤ 1), (by decide : (1 : Int) ≤ 240), fun _ => p1⟩ m m0 m (by omega)).mono ?_
  rintro e w6 ⟨v, rfl, ⟨A2, c2, rfl, hr, hc, _⟩, hd, hk⟩
  have HK6 := Lib.hid (HK5.out.trans hk (fun i hi => .inr (by unfold Own.One at hi; omega)))
  have hcnt := tt_count (p := p.toNat) (ov := 5) (by omega) (m.toNat + 1) m.toNat 1 (by omega)
  obtain ⟨xs, hxs⟩ : ∃ xs, xs = (tt p.toNat 5 m.toNat p.toNat 1).1 := ⟨_, rfl⟩
  rw [← hxs] at hcnt hr hc ⊢
  have HR := Lib.hid hr
  obtain ⟨k, hk0⟩ : ∃ k, k = xs.length := ⟨_, rfl⟩
  have b1 : ((k : Int) == m / p) = true := by
    simp only [beq_iff_eq]
    rw [hk0, hcnt.1]
    rw [show m / p = ((m.toNat : Int)) / (p.toNat : Int) from by rw [Int.toNat_of_nonneg m0, Int.toNat_of_nonneg (by omega)]]
    exact Int.natCast_ediv _ _
  have k1 : (k : Int) ≤ 65535 := by
    rw [hk0, hcnt.1]
    have := Nat.div_le_self m.toNat p.toNat
    omega
  have HX := Lib.hid (And.intro hk0 hcnt.2)
  rw [← hk0]
  have d1 : (1 : Int) ≤ 1 + q % 20 := by have := HP.out; omega
  clear hd hk hcnt hxs hr hc HD5 HK5 hk0
  rcases Nat.eq_zero_or_pos k with h0 | h0
  · have b2 : ((k : Int) == 0) = true := by simp [h0]
    clear h0
    go_wp2_with ((with_reducible refine (lives_any _).mono ?_); rintro e w' ⟨rfl, hk⟩)
    go_ret
    rename_i hk
    exact ⟨rfl, HK6.out.trans hk.out (fun i hi => hi.elim)⟩
  · have b2 : ((k : Int) == 0) = false := by simp; omega
    obtain ⟨y, hy⟩ : ∃ y, xs[0]? = some y := ⟨xs[0]'(by rw [← HX.out.1]; exact h0), List.getElem?_eq_getElem _⟩
    obtain rfl := HX.out.2 y hy
    obtain ⟨b, o, rfl, _, hc⟩ := HR.out 0 (.int .i64 1) (by rw [ints_get, hy]; rfl)
    have hc' : w6.cell? ⟨b, o, none⟩ = some (.int .i64 1) := hc
    have k0 : (0 : Int) < (k : Int) := by omega
    clear hc hy
    go_wp2_with ((with_reducible refine (lives_any _).mono ?_); rintro e w' ⟨rfl, hk⟩)
    go_ret
    rename_i hk
    exact ⟨rfl, HK6.out.trans hk.out (fun i hi => hi.elim)⟩
end Go.Proofs.Ytmaajpkkdpaeeaa.Sync
