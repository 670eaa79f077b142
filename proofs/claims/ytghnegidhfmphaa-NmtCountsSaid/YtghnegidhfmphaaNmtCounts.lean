/- NmtCounts's walk. -/
import Derived.Test.YtghnegidhfmphaaNmtArgs
namespace Go.Proofs.Ytghnegidhfmphaa.Nmt
open Go.RowKit Go.Proofs.Ytghnegidhfmphaa.Own
theorem Nd.step_boots (d : Nd) : d.step.boots = d.boots ∧ d.step.talks = d.talks := by unfold Nd.step; split <;> exact ⟨rfl, rfl⟩
theorem Nd.does_boots (d : Nd) (c : Int) : (d.does c).boots = (if c = 129 then wrap64 (d.boots + 1) else d.boots) ∧ (d.does c).talks = (if c = 130 then wrap64 (d.talks + 1) else d.talks) := by
  unfold Nd.does
  by_cases h1 : c = 1
  · subst h1; exact ⟨rfl, rfl⟩
  by_cases h2 : c = 2
  · subst h2; exact ⟨rfl, rfl⟩
  by_cases h3 : c = 128
  · subst h3; exact ⟨rfl, rfl⟩
  by_cases h4 : c = 129
  · subst h4; exact ⟨rfl, rfl⟩
  by_cases h5 : c = 130
  · subst h5; exact ⟨rfl, rfl⟩
  simp [h1, h2, h3, h4, h5]

set_option maxRecDepth 100000 in
set_option maxHeartbeats 4000000 in
theorem counts_walk (A : Option Addr) (c : Nat) (acts : List NAct) (w : World) (ha : ActsAt w A acts) (hl : acts.length ≤ 9223372036854775807) :
    Calls Try.prog 4 #[.slice A acts.length c] w fun e w' => e = .returned (.bool true) ∧ Keep Zero w w' := by
  have HA := Lib.hid ha
  clear ha
  go_enter Try.func4, Try.ntmps4
  go_wp2_with fail
  refine (New_ok 7 (by omega) (by omega) _).mono ?_
  rintro e w1 ⟨g, rfl, hd, hg, hk⟩
  have HD := Lib.hid hd
  have HK := Lib.hid hk
  clear hd hk
  go_wp2_with fail
  go_loopg [5, 6, 7] acts.length (fun k bo ta i wr => ∃ (j : Nat) (d : Nd), j ≤ acts.length ∧ k = acts.length - j ∧ i = .int .i64 j ∧ bo = .int .i64 d.boots ∧ ta = .int .i64 d.talks ∧ IsNd wr g d ∧ Keep Zero w wr)
  case atStart => exact ⟨0, _, Nat.zero_le _, rfl, rfl, rfl, rfl, HD.out, HK.out⟩
  case round =>
    obtain ⟨j, d, hj, hk, rfl, rfl, rfl, hd, hkp⟩ := hrel
    have HD1 := Lib.hid hd
    have HK1 := Lib.hid hkp
    have HM := Lib.hid hk
    clear hd hkp hk
    by_cases hlt : j < acts.length
    · obtain ⟨x, hx⟩ : ∃ x, acts[j]? = some x := ⟨acts[j], List.getElem?_eq_getElem hlt⟩
      have HX := Lib.hid hx
      obtain ⟨b, o, rfl, hb, hc0, hc1, Ab, cb, hc2, hgot, hnil, hsz⟩ := HA.out j x hx
      clear hx
      have hc0' := ((HK1.out.cell (p := ⟨b, o + j * 3, none⟩) hb id).trans hc0)
      have hc2' := ((HK1.out.cell (p := ⟨b, o + j * 3 + 2, none⟩) hb id).trans hc2)
      have HG := Lib.hid hgot
      clear hc0 hc1 hc2 hgot
      have HN := Lib.hid hnil
      clear hnil
      have HR := Lib.hid HG.out.row
      have hl1 : (j : Int) < (acts.length : Int) := by omega
      have hbw : b < wr.heap.size := Nat.lt_of_lt_of_le hb HK1.out.size
      by_cases k1 : x.kind = 1
      · have t1 : (x.kind == 1) = true := by simp [k1]
        have t0 : (x.kind == 0) = false := by simp [k1]
        clear k1
        go_wp2_with fail
        refine (Step_hid HD1.out).mono ?_
        rintro e w2 ⟨A, n', c', r', rfl, HS⟩
        have hc0'' := (HS.out.2.2.2.2.cell (p := ⟨b, o + j * 3, none⟩) hbw (fun e => by cases e; exact absurd hb (Nat.not_lt.2 hg))).trans hc0'
        have HD3 := Lib.hid HS.out.2.2.2.1
        have HK3 := Lib.hid (HK1.out.trans HS.out.2.2.2.2 (fun i hi => .inr (by cases hi; exact hg)))
        have HB := Lib.hid d.step_boots
        clear HS
        go_wp2_with fail
        go_roundg (acts.length - (j + 1))
        case measure => rw [HM.out]; omega
        case rel => exact ⟨j + 1, d.step, hlt, rfl, by go_num, by rw [HB.out.1], by rw [HB.out.2], HD3.out, HK3.out⟩
      · have t1 : (x.kind == 1) = false := by simp [k1]
        clear k1
        by_cases k0 : x.kind = 0
        · have t0 : (x.kind == 0) = true := by simp [k0]
          clear k0
          go_wp2_with (at_builtin; refine app_copy rfl (.tmp 41) (.tmp 46) 27 rfl 5 (.int .u8 0) 1 1 under27 info5 rfl (by decide) wr.heap.size rfl (Blk.new _ _ _) Ab x.b.length cb (ints .u8 x.b) rfl (by rw [ints_length]; omega) HN.out (Row.keep (w := wr) (HR.out.keep HK1.out (fun _ _ _ => id)) ((Keep.refl Zero _).alloc _) (fun _ _ _ => id)) (ints_one _ _) (by unfold maxLen; omega) (by omega) ?_; intro A' c' w2 _ _ hr2 hk2 ha2)
          have HK2 := Lib.hid (((Keep.refl Zero wr).alloc _).trans hk2 (fun i hi => .inr (by cases hi; exact Nat.le_refl _)))
          have HR2 := Lib.hid hr2
          have HA2 := Lib.hid ha2
          clear hk2 hr2 ha2
          obtain ⟨cm, hcm⟩ : ∃ cm, cm = d.cmd x.b := ⟨_, rfl⟩
          refine (Take_any (HD1.out.keep HK2.out id) A' _ c' x.b ⟨rfl, HR2.out, HG.out.byte⟩ (fun a ha _ e => ?_)).mono ?_
          · have := HA2.out a ha
            have := HD1.out.lt
            omega
          rw [← hcm]
          clear hcm
          rintro e w3 ⟨rfl, hd3, hk3⟩
          have HD3 := Lib.hid hd3
          have HK3 := Lib.hid ((HK1.out.trans HK2.out (fun i hi => hi.elim)).trans hk3 (fun i hi => .inr (by cases hi; exact hg)))
          have HB := Lib.hid (d.does_boots cm)
          clear hd3 hk3
          by_cases z1 : cm = 129
          · have y1 : (cm == 129) = true := by simp [z1]
            have E : Hid ((d.does cm).boots = wrap64 (d.boots + 1) ∧ (d.does cm).talks = d.talks) := by
              refine ⟨HB.out.1.trans (if_pos z1), HB.out.2.trans (if_neg (by omega))⟩
            clear z1 HB
            go_wp2_with fail
            go_roundg (acts.length - (j + 1))
            case measure => rw [HM.out]; omega
            case rel => exact ⟨j + 1, d.does cm, hlt, rfl, by go_num, by rw [E.out.1], by rw [E.out.2], HD3.out, HK3.out⟩
          · have y1 : (cm == 129) = false := by simp [z1]
            by_cases z2 : cm = 130
            · have y2 : (cm == 130) = true := by simp [z2]
              have E : Hid ((d.does cm).boots = d.boots ∧ (d.does cm).talks = wrap64 (d.talks + 1)) := by
                refine ⟨HB.out.1.trans (if_neg z1), HB.out.2.trans (if_pos z2)⟩
              clear z1 z2 HB
              go_wp2_with fail
              go_roundg (acts.length - (j + 1))
              case measure => rw [HM.out]; omega
              case rel => exact ⟨j + 1, d.does cm, hlt, rfl, by go_num, by rw [E.out.1], by rw [E.out.2], HD3.out, HK3.out⟩
            · have y2 : (cm == 130) = false := by simp [z2]
              have E : Hid ((d.does cm).boots = d.boots ∧ (d.does cm).talks = d.talks) := by
                refine ⟨HB.out.1.trans (if_neg z1), HB.out.2.trans (if_neg z2)⟩
              clear z1 z2 HB
              go_wp2_with fail
              go_roundg (acts.length - (j + 1))
              case measure => rw [HM.out]; omega
              case rel => exact ⟨j + 1, d.does cm, hlt, rfl, by go_num, by rw [E.out.1], by rw [E.out.2], HD3.out, HK3.out⟩
        · have t0 : (x.kind == 0) = false := by simp [k0]
          clear k0
          go_wp2_with fail
          go_roundg (acts.length - (j + 1))
          case measure => rw [HM.out]; omega
          case rel => exact ⟨j + 1, d, hlt, rfl, by go_num, rfl, rfl, HD1.out, HK1.out⟩
    · have hl1 : ¬ (j : Int) < (acts.length : Int) := by omega
      go_wp2_with (first | ((with_reducible refine (lives_any _).mono ?_); rintro e w' ⟨rfl, hk⟩) | ((with_reducible refine (Boots_keep HD1.out).mono ?_); rintro e w5 ⟨rfl, hk5⟩; have HK5 := Lib.hid hk5; clear hk5))
      go_ret
      rename_i hk
      exact ⟨rfl, (HK1.out.trans HK5.out (fun i hi => hi.elim)).trans hk (fun i hi => hi.elim)⟩
theorem counts_walk' (A : Option Addr) (c : Nat) (xs : List (Int × Int × List Int × Unit)) (w : World) (h : RowOf (Both (IntIs .i64) (Both (IntIs .i64) (Both (SliceIs (IntIs .u8) 1 1) NoCells))) 3 w A xs) (hb : xs.length * 40 ≤ reachBytes) :
    Calls Try.prog 4 #[.slice A xs.length c] w fun e w' => e = .returned (.bool true) ∧ Keep Zero w w' := by
  have hl : (xs.map fun x => (⟨x.1, x.2.1, x.2.2.1⟩ : NAct)).length = xs.length := List.length_map _
  have hwk := counts_walk A c _ w (actsAt_of h) (by rw [hl]; unfold reachBytes at hb; omega)
  rw [hl] at hwk
  exact hwk
end Go.Proofs.Ytghnegidhfmphaa.Nmt
