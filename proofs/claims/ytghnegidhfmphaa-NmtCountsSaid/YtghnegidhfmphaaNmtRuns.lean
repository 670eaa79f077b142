/- NmtRuns's walk. -/
import Derived.Test.YtghnegidhfmphaaNmtD
namespace Go.Proofs.Ytghnegidhfmphaa.Nmt
open Go.RowKit Go.Proofs.Ytghnegidhfmphaa.Own
structure NAct where
  kind : Int
  n : Int
  b : List Int
def ActAt (w : World) (b o : Nat) (x : NAct) : Prop :=
  w.cell? ⟨b, o, none⟩ = some (.int .i64 x.kind) ∧ w.cell? ⟨b, o + 1, none⟩ = some (.int .i64 x.n) ∧ ∃ A c, w.cell? ⟨b, o + 2, none⟩ = some (.slice A x.b.length c) ∧ Got w A x.b.length c x.b ∧ (A = none → c = 0) ∧ x.b.length ≤ 140737488351232
def ActsAt (w : World) (A : Option Addr) (acts : List NAct) : Prop := ∀ i x, acts[i]? = some x → ∃ b o, A = some ⟨b, o, none⟩ ∧ b < w.heap.size ∧ ActAt w b (o + i * 3) x
def Inv (d : Nd) (l : Int) : Prop := (d.state = 5 ↔ l = 1) ∧ (d.state = 4 → l = 2)

theorem info5 : (Try.prog.info? 5).map (fun i => (i.zero, i.size, i.bytes)) = some (some (.int .u8 0), 1, 1) := by kernel_rfl
theorem Inv_step {d : Nd} {l : Int} (h : Inv d l) : Inv d.step l := by
  unfold Inv Nd.step at *
  split
  · simp only
    omega
  · exact h
theorem cmd_of {d : Nd} {b : List Int} {c : Int} (h : c = d.cmd b) (hz : c ≠ 0) : c = 1 ∨ c = 2 ∨ c = 128 ∨ c = 129 ∨ c = 130 := by
  subst h
  match b with
  | [] => exact absurd rfl hz
  | [x] => exact absurd rfl hz
  | x :: y :: z :: r => exact absurd rfl hz
  | [x, y] =>
    simp only [Nd.cmd] at hz ⊢
    split at hz
    · rename_i h
      rw [if_pos h]
      exact h.2
    · exact absurd rfl hz
theorem Inv_does {d : Nd} {c : Int} (hc : c = 1 ∨ c = 2 ∨ c = 128 ∨ c = 129 ∨ c = 130) : Inv (d.does c) c := by
  unfold Inv Nd.does
  rcases hc with rfl | rfl | rfl | rfl | rfl <;> simp
theorem Inv_tests {d : Nd} {l : Int} (h : Inv d l) : (d.state == 5) = (l == 1) ∧ ((d.state == 4) = true → (l != 2) = false) := by
  unfold Inv at h
  refine ⟨?_, fun k => ?_⟩
  · rw [Bool.eq_iff_iff]; simp; exact h.1
  · simp at *; exact h.2 k

set_option maxHeartbeats 1000000 in
theorem runs_walk (A : Option Addr) (c : Nat) (acts : List NAct) (w : World) (ha : ActsAt w A acts) (hl : acts.length ≤ 9223372036854775807) :
    Calls Try.prog 3 #[.slice A acts.length c] w fun e w' => e = .returned (.bool true) ∧ Keep Zero w w' := by
  have HA := Lib.hid ha
  clear ha
  go_enter Try.func3, Try.ntmps3
  go_wp2_with fail
  refine (New_ok 7 (by omega) (by omega) _).mono ?_
  rintro e w1 ⟨g, rfl, hd, hg, hk⟩
  have HD := Lib.hid hd
  have HK := Lib.hid hk
  clear hd hk
  go_wp2_with fail
  go_loopg [5, 6] acts.length (fun k last i wr => ∃ (j : Nat) (d : Nd) (l : Int), j ≤ acts.length ∧ k = acts.length - j ∧ i = .int .i64 j ∧ last = .int .i64 l ∧ IsNd wr g d ∧ Keep Zero w wr ∧ Inv d l)
  case atStart => exact ⟨0, _, 0, Nat.zero_le _, rfl, rfl, rfl, HD.out, HK.out, by simp [Inv]⟩
  case round =>
    obtain ⟨j, d, l, hj, hk, rfl, rfl, hd, hkp, hinv⟩ := hrel
    have HD1 := Lib.hid hd
    have HK1 := Lib.hid hkp
    have HI := Lib.hid hinv
    have HM := Lib.hid hk
    clear hd hkp hinv hk
    by_cases hlt : j < acts.length
    · obtain ⟨x, hx⟩ : ∃ x, acts[j]? = some x := ⟨acts[j], List.getElem?_eq_getElem hlt⟩
      have HX := Lib.hid hx
      obtain ⟨b, o, rfl, hb, hc0, hc1, Ab, cb, hc2, hgot, hnil, hsz⟩ := HA.out j x hx
      clear hx
      have hc0' := ((HK1.out.cell (p := ⟨b, o + j * 3, none⟩) hb id).trans hc0)
      have hc2' := ((HK1.out.cell (p := ⟨b, o + j * 3 + 2, none⟩) hb id).trans hc2)
      have HG := Lib.hid hgot
      clear hc0 hc1 hc2 hgot
      have HN := Lib.hid hnil
      have HR := Lib.hid HG.out.row
      clear hnil
      have hl1 : (j : Int) < (acts.length : Int) := by omega
      have hbw : b < wr.heap.size := Nat.lt_of_lt_of_le hb HK1.out.size
      by_cases k1 : x.kind = 1
      · have t1 : (x.kind == 1) = true := by simp [k1]
        have t0 : (x.kind == 0) = false := by simp [k1]
        clear k1
        go_wp2_with fail
        refine (Step_hid HD1.out).mono ?_
        rintro e w2 ⟨A, n', c', r', rfl, HS⟩
        obtain ⟨d2, hd2⟩ : ∃ d2, d2 = d.step := ⟨_, rfl⟩
        have HD2 : Hid (IsNd w2 g d2) := hd2 ▸ HS.out.2.2.2.1
        have HK2 := Lib.hid (HK1.out.trans HS.out.2.2.2.2 (fun i hi => .inr (by cases hi; exact hg)))
        have HI2 : Hid (Inv d2 l) := hd2 ▸ Inv_step HI.out
        have hc0'' := (HS.out.2.2.2.2.cell (p := ⟨b, o + j * 3, none⟩) (Nat.lt_of_lt_of_le hb HK1.out.size) (fun e => by cases e; exact absurd hb (Nat.not_lt.2 hg))).trans hc0'
        clear HS hd2
        go_wp2_with fail
        refine (State_any HD2.out).mono ?_
        rintro e w' ⟨rfl, rfl⟩
        obtain ⟨b1, b2⟩ := Inv_tests HI2.out
        by_cases s4 : d2.state = 4
        · have s4' : (d2.state == 4) = true := by simp [s4]
          have s4'' := b2 s4'
          clear s4 b2
          go_wp2_with ((with_reducible refine (State_any HD2.out).mono ?_); rintro e w' ⟨rfl, rfl⟩)
          go_roundg (acts.length - (j + 1))
          case measure => rw [HM.out]; omega
          case rel => exact ⟨j + 1, d2, _, hlt, rfl, by go_num, rfl, HD2.out, HK2.out, HI2.out⟩
        · have s4' : (d2.state == 4) = false := by simp [s4]
          clear s4 b2
          go_wp2_with ((with_reducible refine (State_any HD2.out).mono ?_); rintro e w' ⟨rfl, rfl⟩)
          go_roundg (acts.length - (j + 1))
          case measure => rw [HM.out]; omega
          case rel => exact ⟨j + 1, d2, _, hlt, rfl, by go_num, rfl, HD2.out, HK2.out, HI2.out⟩
      · have t1 : (x.kind == 1) = false := by simp [k1]
        clear k1
        by_cases k0 : x.kind = 0
        · have t0 : (x.kind == 0) = true := by simp [k0]
          clear k0
          go_wp2_with (at_builtin; refine app_copy rfl (.tmp 39) (.tmp 44) 27 rfl 5 (.int .u8 0) 1 1 under27 info5 rfl (by decide) wr.heap.size rfl (Blk.new _ _ _) Ab x.b.length cb (ints .u8 x.b) rfl (by rw [ints_length]; omega) HN.out (Row.keep (w := wr) (HR.out.keep HK1.out (fun _ _ _ => id)) ((Keep.refl Zero _).alloc _) (fun _ _ _ => id)) (ints_one _ _) (by unfold maxLen; omega) (by omega) ?_; intro A' c' w2 _ _ hr2 hk2 ha2)
          have HK2 := Lib.hid (((Keep.refl Zero wr).alloc _).trans hk2 (fun i hi => .inr (by cases hi; exact Nat.le_refl _)))
          have HR2 := Lib.hid hr2
          have HA2 := Lib.hid ha2
          clear hk2 hr2 ha2
          obtain ⟨cm, hcm⟩ : ∃ cm, cm = d.cmd x.b := ⟨_, rfl⟩
          refine (Take_any (HD1.out.keep HK2.out id) A' _ c' x.b ⟨rfl, HR2.out, HG.out.byte⟩ (fun a ha _ e => ?_)).mono ?_
          · have := HA2.out a ha
            have := HD1.out.lt
            omega
          rw [← hcm]
          rintro e w3 ⟨rfl, hd3, hk3⟩
          have HD3 := Lib.hid hd3
          have HK3 := Lib.hid ((HK1.out.trans HK2.out (fun i hi => hi.elim)).trans hk3 (fun i hi => .inr (by cases hi; exact hg)))
          clear hd3 hk3
          have H0 := Lib.hid hcm
          clear hcm
          by_cases hz : cm = 0
          · have z0 : (cm == 0) = true := by simp [hz]
            have z1 : (cm != 0) = false := by simp [hz]
            have e3 : d.does cm = d := by rw [hz, Nd.does_0]
            rw [e3] at HD3
            clear hz e3 H0
            go_wp2_with fail
            refine (State_any HD3.out).mono ?_
            rintro e w' ⟨rfl, rfl⟩
            obtain ⟨b1, b2⟩ := Inv_tests HI.out
            by_cases s4 : d.state = 4
            · have s4' : (d.state == 4) = true := by simp [s4]
              have s4'' := b2 s4'
              clear s4 b2
              go_wp2_with ((with_reducible refine (State_any HD3.out).mono ?_); rintro e w' ⟨rfl, rfl⟩)
              go_roundg (acts.length - (j + 1))
              case measure => rw [HM.out]; omega
              case rel => exact ⟨j + 1, d, _, hlt, rfl, by go_num, rfl, HD3.out, HK3.out, HI.out⟩
            · have s4' : (d.state == 4) = false := by simp [s4]
              clear s4 b2
              go_wp2_with ((with_reducible refine (State_any HD3.out).mono ?_); rintro e w' ⟨rfl, rfl⟩)
              go_roundg (acts.length - (j + 1))
              case measure => rw [HM.out]; omega
              case rel => exact ⟨j + 1, d, _, hlt, rfl, by go_num, rfl, HD3.out, HK3.out, HI.out⟩
          · have z0 : (cm == 0) = false := by simp [hz]
            have z1 : (cm != 0) = true := by simp [hz]
            have HI3 : Hid (Inv (d.does cm) cm) := Inv_does (cmd_of H0.out hz)
            obtain ⟨d2, hd2⟩ : ∃ d2, d2 = d.does cm := ⟨_, rfl⟩
            rw [← hd2] at HD3 HI3
            clear hz H0 hd2
            go_wp2_with fail
            refine (State_any HD3.out).mono ?_
            rintro e w' ⟨rfl, rfl⟩
            obtain ⟨b1, b2⟩ := Inv_tests HI3.out
            by_cases s4 : d2.state = 4
            · have s4' : (d2.state == 4) = true := by simp [s4]
              have s4'' := b2 s4'
              clear s4 b2
              go_wp2_with ((with_reducible refine (State_any HD3.out).mono ?_); rintro e w' ⟨rfl, rfl⟩)
              go_roundg (acts.length - (j + 1))
              case measure => rw [HM.out]; omega
              case rel => exact ⟨j + 1, d2, _, hlt, rfl, by go_num, rfl, HD3.out, HK3.out, HI3.out⟩
            · have s4' : (d2.state == 4) = false := by simp [s4]
              clear s4 b2
              go_wp2_with ((with_reducible refine (State_any HD3.out).mono ?_); rintro e w' ⟨rfl, rfl⟩)
              go_roundg (acts.length - (j + 1))
              case measure => rw [HM.out]; omega
              case rel => exact ⟨j + 1, d2, _, hlt, rfl, by go_num, rfl, HD3.out, HK3.out, HI3.out⟩
        · have t0 : (x.kind == 0) = false := by simp [k0]
          clear k0
          go_wp2_with fail
          refine (State_any HD1.out).mono ?_
          rintro e w' ⟨rfl, rfl⟩
          obtain ⟨b1, b2⟩ := Inv_tests HI.out
          by_cases s4 : d.state = 4
          · have s4' : (d.state == 4) = true := by simp [s4]
            have s4'' := b2 s4'
            clear s4 b2
            go_wp2_with ((with_reducible refine (State_any HD1.out).mono ?_); rintro e w' ⟨rfl, rfl⟩)
            go_roundg (acts.length - (j + 1))
            case measure => rw [HM.out]; omega
            case rel => exact ⟨j + 1, d, _, hlt, rfl, by go_num, rfl, HD1.out, HK1.out, HI.out⟩
          · have s4' : (d.state == 4) = false := by simp [s4]
            clear s4 b2
            go_wp2_with ((with_reducible refine (State_any HD1.out).mono ?_); rintro e w' ⟨rfl, rfl⟩)
            go_roundg (acts.length - (j + 1))
            case measure => rw [HM.out]; omega
            case rel => exact ⟨j + 1, d, _, hlt, rfl, by go_num, rfl, HD1.out, HK1.out, HI.out⟩
    · have hl1 : ¬ (j : Int) < (acts.length : Int) := by omega
      go_wp2_with ((with_reducible refine (lives_any _).mono ?_); rintro e w' ⟨rfl, hk⟩)
      go_ret
      exact ⟨rfl, HK1.out.trans hk (fun i hi => hi.elim)⟩

end Go.Proofs.Ytghnegidhfmphaa.Nmt
