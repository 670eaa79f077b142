/- PdoCyclic's walk. -/
import Derived.Test.YtcgnkabblmoboaaPdoH
import Derived.Deep.RegionHeld3
import Derived.Deep.RegionHeld
namespace Go.Proofs.Ytcgnkabblmoboaa.Pdo
open Go.RowKit Go.Proofs.Ytcgnkabblmoboaa.Own
def BoolsAt (w : World) (A : Option Addr) (xs : List Bool) : Prop := ∀ i x, xs[i]? = some x → ∃ b o, A = some ⟨b, o, none⟩ ∧ b < w.heap.size ∧ w.cell? ⟨b, o + i, none⟩ = some (.bool x)
def Cy (n y : Int) (ws : Bool) : Sd := ⟨n, 0, 0, true, ws, 0, 0, y⟩
theorem cy_free {n : Int} (h0 : 1 ≤ n) (h1 : n ≤ 240) : freeB n = false := by
  unfold freeB
  simp
  omega
theorem Event_c {w : World} {g : Nat} {n y : Int} {ws : Bool} (h : IsSd w g (Cy n y ws)) (h0 : 1 ≤ n) (h1 : n ≤ 240) :
    Calls Try.prog 20 #[.pointer (some ⟨g, 0, none⟩)] w fun e w' => e = .returned (.bool false) ∧ IsSd w' g (Cy n y true) ∧ Keep (One g) w w' := by
  refine (Event_any h).mono ?_
  rintro e w' hp
  have : (Cy n y ws).event = (false, Cy n y true) := by
    unfold Sd.event
    simp [Cy, cy_free h0 h1]
  unfold BoolPost at hp
  rw [this] at hp
  exact hp
theorem Tick_c {w : World} {g : Nat} {n y : Int} {ws : Bool} (h : IsSd w g (Cy n y ws)) (h0 : 1 ≤ n) (h1 : n ≤ 240) :
    Calls Try.prog 22 #[.pointer (some ⟨g, 0, none⟩)] w fun e w' => e = .returned (.bool false) ∧ IsSd w' g (Cy n y ws) ∧ Keep (One g) w w' := by
  refine (Tick_any h (by simp [Cy]) (by simp [Cy]) (by simp [Cy]) (by simp [Cy])).mono ?_
  rintro e w' hp
  have : (Cy n y ws).tick = (false, Cy n y ws) := by
    unfold Sd.tick
    simp [Cy, cy_free h0 h1]
  unfold BoolPost at hp
  rw [this] at hp
  exact hp
theorem Sync_c {w : World} {g : Nat} {n y : Int} {ws : Bool} (h : IsSd w g (Cy n y ws)) (h0 : 1 ≤ n) (h1 : n ≤ 240) (y0 : 0 ≤ y) (y1 : y ≤ 255) (k z : Int) (hz : (y + 1) % n = z) (r : Bool) (hr : (z == 0) = r) :
    Calls Try.prog 21 #[.pointer (some ⟨g, 0, none⟩), .int .i64 k] w fun e w' => e = .returned (.bool r) ∧ IsSd w' g (Cy n z ws) ∧ Keep (One g) w w' := by
  refine (Sync_any h (by simp only [Cy]; omega) (by simp only [Cy]; omega) y0 y1 k).mono ?_
  rintro e w' hp
  have : (Cy n y ws).sync = (r, Cy n z ws) := by
    unfold Sd.sync
    have : n ≠ 0 := by omega
    simp [Cy, cy_free h0 h1, this, hz, ← hr]
  unfold BoolPost at hp
  rw [this] at hp
  exact hp
set_option maxHeartbeats 8000000 in
theorem cyclic_walk (t : Int) (t0 : 0 ≤ t) (t1 : t ≤ 255) (A : Option Addr) (c : Nat) (xs : List Bool) (w : World) (ha : BoolsAt w A xs) (hl : xs.length ≤ 140737488355328) :
    Calls Try.prog 5 #[.int .u8 t, .slice A xs.length c] w fun e w' => e = .returned (.bool true) ∧ Keep Zero w w' := by
  have HA := Lib.hid ha
  obtain ⟨n, hn⟩ : ∃ n, n = 1 + t % 240 := ⟨_, rfl⟩
  have n0 : 1 ≤ n := by omega
  have n1 : n ≤ 240 := by omega
  have HP := Lib.hid hn
  clear ha hn
  have hok : okB n 0 0 = true := by
    unfold okB isB
    simp
    omega
  have HO := Lib.hid hok
  clear hok
  go_enter Try.func5, Try.ntmps5
  go_wp2_with fail
  rw [← HP.out]
  refine (New_ok n 0 0 HO.out _).mono ?_
  rintro e w1 ⟨g, rfl, hs, hg, h1⟩
  have S1 := Lib.hid hs
  have K1 := Lib.hid h1
  have HG := Lib.hid hg
  clear hs h1 hg
  go_wp2_with fail
  refine (Start_any S1.out true).mono ?_
  rintro e w2 ⟨rfl, hs, hk⟩
  have S2 : Hid (IsSd w2 g (Cy n 0 false)) := Lib.hid hs
  have K2 := Lib.hid (K1.out.trans hk (fun i hi => .inr (by have := HG.out; unfold Own.One at hi; omega)))
  clear hs hk S1 K1
  go_wp2_with fail
  go_loopg [8] xs.length (fun k i wr => ∃ (j : Nat) (ws : Bool), j ≤ xs.length ∧ k = xs.length - j ∧ i = .int .i64 j ∧ IsSd wr g (Cy n ((j : Int) % n) ws) ∧ Keep Zero w wr)
  case atStart => exact ⟨0, _, Nat.zero_le _, rfl, rfl, by simpa using S2.out, K2.out⟩
  case round =>
    obtain ⟨j, ws, hj, hk, rfl, hs, hkp⟩ := hrel
    have HM := Lib.hid hk
    have HS := Lib.hid hs
    have HK := Lib.hid hkp
    clear hk hs hkp S2 K2
    by_cases hlt : j < xs.length
    · obtain ⟨x, hx⟩ : ∃ x, xs[j]? = some x := ⟨xs[j], List.getElem?_eq_getElem hlt⟩
      obtain ⟨b, o, rfl, hb, hc0⟩ := HA.out j x hx
      have hc := ((HK.out.cell (p := ⟨b, o + j, none⟩) hb id).trans hc0)
      have HC := Lib.hid hc
      have HB := Lib.hid (Nat.lt_of_lt_of_le hb HK.out.size)
      have HN : Hid (¬ Own.One g b) := Lib.hid (fun e => by have := HG.out; unfold Own.One at e; omega)
      have h1 : (j : Int) < (xs.length : Int) := by omega
      have m0 := Int.emod_nonneg (j : Int) (b := n) (by omega)
      have m1 := Int.emod_lt_of_pos (j : Int) (b := n) (by omega)
      have hz : ¬ n = 0 := by omega
      have q1 : IntKind.i64.wrap ((j : Int) + 1) = j + 1 := IntWalk.i64_in _ (by omega)
      have q2 : ((j : Int) + 1).tmod n = ((j : Int) + 1) % n := Int.tmod_eq_emod_of_nonneg (by omega)
      have qs : ((j : Int) % n + 1) % n = ((j : Int) + 1) % n := by simp [Int.emod_add_emod]
      have HQ := Lib.hid qs
      obtain ⟨z, hz2⟩ : ∃ z, ((j : Int) + 1) % n = z := ⟨_, rfl⟩
      obtain ⟨r, hr⟩ : ∃ r, (z == 0) = r := ⟨_, rfl⟩
      have HZ := Lib.hid hz2
      have HR := Lib.hid hr
      have br : (r != r) = false := by simp
      clear hx hc0 qs
      cases x with
      | true =>
        go_wp2_with fail
        go_region_held3 (fun w' => w'.cell? ⟨b, o + j, none⟩ = some (.bool true)) (first | (go_keep; done) | exact HC.out | exact (k4.cell (p := ⟨b, o + j, none⟩) HB.out HN.out).trans HC.out | exact (k5.cell (p := ⟨b, o + j, none⟩) (Nat.lt_of_lt_of_le HB.out k4.size) HN.out).trans ((k4.cell (p := ⟨b, o + j, none⟩) HB.out HN.out).trans HC.out) | exact (k6.cell (p := ⟨b, o + j, none⟩) (Nat.lt_of_lt_of_le (Nat.lt_of_lt_of_le HB.out k4.size) k5.size) HN.out).trans ((k5.cell (p := ⟨b, o + j, none⟩) (Nat.lt_of_lt_of_le HB.out k4.size) HN.out).trans ((k4.cell (p := ⟨b, o + j, none⟩) HB.out HN.out).trans HC.out))) (first | (go_at_call 20; refine (Event_c (w := wr.drew) HS.out.drew n0 n1).mono ?_; rintro e w4 ⟨rfl, h4, k4⟩) | (go_at_call 22; refine (Tick_c h4 n0 n1).mono ?_; rintro e w5 ⟨rfl, h5, k5⟩) | (go_at_call 21; refine (Sync_c h5 n0 n1 m0 (by omega) _ z (HQ.out.trans HZ.out) r HR.out).mono ?_; rintro e w6 ⟨rfl, h6, k6⟩))
        have H6 := Lib.hid h6
        have K6 := Lib.hid (((HK.out.drew.trans k4 (fun i hi => .inr (by have := HG.out; unfold Own.One at hi; omega))).trans k5 (fun i hi => .inr (by have := HG.out; unfold Own.One at hi; omega))).trans k6 (fun i hi => .inr (by have := HG.out; unfold Own.One at hi; omega)))
        clear h4 k4 h5 k5 h6 k6
        go_wp2_with fail
        go_roundg (xs.length - (j + 1))
        case measure => rw [HM.out]; omega
        case rel => exact ⟨j + 1, true, hlt, rfl, by go_num, by have := H6.out; rw [← HZ.out] at this; exact this, K6.out⟩
      | false =>
        go_wp2_with fail
        first | (go_region_held (fun w' => w'.cell? ⟨b, o + j, none⟩ = some (.bool false)) (first | (go_keep; done) | exact HC.out | exact (k5.cell (p := ⟨b, o + j, none⟩) HB.out HN.out).trans HC.out | exact (k6.cell (p := ⟨b, o + j, none⟩) (Nat.lt_of_lt_of_le HB.out k5.size) HN.out).trans ((k5.cell (p := ⟨b, o + j, none⟩) HB.out HN.out).trans HC.out)) (first | (go_at_call 22; refine (Tick_c (w := wr.drew) HS.out.drew n0 n1).mono ?_; rintro e w5 ⟨rfl, h5, k5⟩) | (go_at_call 21; refine (Sync_c h5 n0 n1 m0 (by omega) _ z (HQ.out.trans HZ.out) r HR.out).mono ?_; rintro e w6 ⟨rfl, h6, k6⟩))) | fail "no way"
        have H6 := Lib.hid h6
        have K6 := Lib.hid ((HK.out.drew.trans k5 (fun i hi => .inr (by have := HG.out; unfold Own.One at hi; omega))).trans k6 (fun i hi => .inr (by have := HG.out; unfold Own.One at hi; omega)))
        clear h5 k5 h6 k6
        go_wp2_with fail
        go_roundg (xs.length - (j + 1))
        case measure => rw [HM.out]; omega
        case rel => exact ⟨j + 1, ws, hlt, rfl, by go_num, by have := H6.out; rw [← HZ.out] at this; exact this, K6.out⟩
    · have h1 : ¬ (j : Int) < (xs.length : Int) := by omega
      clear hlt
      go_wp2_with ((with_reducible refine (lives_any _).mono ?_); rintro e w' ⟨rfl, hk⟩)
      go_ret
      rename_i hk
      exact ⟨rfl, HK.out.trans hk.out (fun i hi => hi.elim)⟩
end Go.Proofs.Ytcgnkabblmoboaa.Pdo
