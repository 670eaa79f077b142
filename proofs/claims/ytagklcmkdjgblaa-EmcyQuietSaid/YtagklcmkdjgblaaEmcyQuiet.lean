/- EmcyQuiet: the walk of the law's function. -/
import Derived.Test.YtagklcmkdjgblaaEmcyN
namespace Go.Proofs.Ytagklcmkdjgblaa.Emcy
open Go.RowKit Go.Proofs.Ytagklcmkdjgblaa.Own
theorem tells_quiet (t : Tl) (c : Int) (x : Ex) : (t.tells c x).quiet = t.quiet := rfl
theorem raise_quiet (t : Tl) (x : Tr) : (t.raise x).2.quiet = t.quiet := by
  unfold Tl.raise
  split <;> rfl
theorem clear_quiet (t : Tl) (c : Int) : (t.clear c).2.quiet = t.quiet := by
  unfold Tl.clear
  split <;> rfl
/-- Ticks since the last frame, and those that are left. -/
def QI (i s : Int) (any : Bool) (t : Tl) : Prop := any = true → i ≤ s + t.quiet
theorem QI.tick {i s : Int} {any : Bool} {t : Tl} (h : QI i s any t) (q0 : 0 ≤ t.quiet) : QI i (s + 1) any t.tick := by
  intro ha
  have := h ha
  unfold Tl.tick
  simp only
  split <;> omega
theorem frame_is {t : Tl} {f : Fr} {t' : Tl} (h : t.frame = (f, true, t')) (q0 : 0 ≤ t.quiet) : t.quiet = 0 ∧ t'.quiet = t.inhibit := by
  unfold Tl.frame at h
  split at h
  · simp at h
  · split at h
    · simp at h
    · simp only [Prod.mk.injEq, true_and] at h
      rw [← h.2]
      exact ⟨by omega, rfl⟩
theorem frame_inh {t : Tl} {f : Fr} {b : Bool} {t' : Tl} (h : t.frame = (f, b, t')) : t'.inhibit = t.inhibit := by
  unfold Tl.frame at h
  split at h
  · simp only [Prod.mk.injEq] at h
    rw [← h.2.2]
  · split at h
    · simp only [Prod.mk.injEq] at h
      rw [← h.2.2]
    · simp only [Prod.mk.injEq] at h
      rw [← h.2.2]
theorem frame_not {t : Tl} {f : Fr} {t' : Tl} (h : t.frame = (f, false, t')) : t' = t := by
  unfold Tl.frame at h
  split at h
  · simp only [Prod.mk.injEq, true_and] at h
    exact h.2.symm
  · split at h
    · simp only [Prod.mk.injEq, true_and] at h
      exact h.2.symm
    · simp at h
def xQ : Tr := ⟨4096, 0, 0, 0, 0, 0, 0⟩
def tQ (i : Int) : Tl := ⟨1, i, 0, [], [], []⟩
def fQ : Fr := frameF 4096 (regF [xQ]) xQ.ex
theorem raise_xQ (i : Int) : (tQ i).raise xQ = (true, ⟨1, i, 0, [xQ], [xQ], [fQ]⟩) := by
  unfold Tl.raise Tl.tells fQ frameF
  simp [tQ, xQ, findF, Tr.ex]
theorem frame_xQ (i : Int) : (⟨1, i, 0, [xQ], [xQ], [fQ]⟩ : Tl).frame = (fQ, true, ⟨1, i, i, [xQ], [xQ], []⟩) := by
  unfold Tl.frame
  simp
set_option maxRecDepth 100000 in
set_option maxHeartbeats 8000000 in
theorem quiet_walk (inh : Int) (i0 : 0 ≤ inh) (i1 : inh ≤ 255) (A : Option Addr) (ca : Nat) (l : List Tr) (B : Option Addr) (cb : Nat) (gs : List Int) (w : World) (hA : Trs w A l) (hl : l.length ≤ 17592186044000) (hwf : ∀ x ∈ l, x.wf)
    (hB : Row w B (ints .u8 gs)) (hgl : gs.length ≤ 1000000000000000) (hgs : ∀ x ∈ gs, 0 ≤ x ∧ x ≤ 255) :
    Calls Try.prog 3 #[.int .u8 inh, .slice A l.length ca, .slice B gs.length cb] w fun e w' => e = .returned (.bool true) ∧ Keep Zero w w' := by
  have HA := Lib.hid hA
  have HWF := Lib.hid hwf
  have HB := Lib.hid hB
  have HGS := Lib.hid hgs
  obtain ⟨n, hn⟩ : ∃ n, n = l.length := ⟨_, rfl⟩
  have HN := Lib.hid hn
  obtain ⟨c, hc⟩ : ∃ c, c = gs.length := ⟨_, rfl⟩
  have HC := Lib.hid hc
  rw [← hn, ← hc]
  rw [← hn] at hl
  rw [← hc] at hgl
  have hi2 : inh ≤ 4294967296 := by omega
  clear hA hwf hB hgs hn hc
  go_enter Try.func3, Try.ntmps3
  go_wp2_with fail
  refine (New_l w (Keep.refl _ _) 9 inh (by decide) (by decide) hi2).mono ?_
  rintro e w1 ⟨g, rfl, hp⟩
  have HL1 := Lib.hid hp.out.1
  clear hp
  go_wp2_with fail
  go_loopg [9, 10, 11] n (fun k s9 s10 s11 wr => ∃ (j : Nat) (s : Int) (any : Bool) (t : Tl), j ≤ n ∧ k = n - j ∧ s11 = .int .i64 j ∧ 0 ≤ s ∧ s ≤ (j : Int) * 255 ∧ s9 = .int .i64 s ∧ s10 = .bool any ∧ Liv w wr g t ∧ Ok 9 inh j t ∧ Hid (QI inh s any t))
  case atStart => exact ⟨0, 0, false, _, Nat.zero_le _, rfl, rfl, Int.le_refl _, by omega, rfl, rfl, HL1.out, Ok.new 9 inh (by decide) (by decide) i0 hi2, fun h => by cases h⟩
  case round =>
    obtain ⟨j, s, any, t, hj, hk, rfl, s0, s1, rfl, rfl, hL, hO, HQ⟩ := hrel
    have HL := Lib.hid hL
    have HO := Lib.hid hO
    have HM := Lib.hid hk
    have hs1 : s ≤ 17592186044000 * 255 := by omega
    have HS1 := Lib.hid s1
    clear HL1 hL hO hk s1
    by_cases hlt : j < n
    · have h1 : (j : Int) < (n : Int) := by omega
      have h0 : (0 : Int) ≤ (j : Int) := by omega
      obtain ⟨x, hx⟩ : ∃ x, l[j]? = some x := ⟨l[j]'(by rw [← HN.out]; exact hlt), List.getElem?_eq_getElem _⟩
      obtain ⟨b1, o1, rfl, lb1, x0, x1, x2, x3, x4, x5, x6⟩ := Trs.pick (Row.keep HA.out (HL.out.old) (fun _ _ _ => id)) hx
      have HX := Lib.hid (HWF.out x (List.mem_of_getElem? hx))
      have HXe := Lib.hid hx
      clear hx
      go_wp2_with fail
      refine (Raise_l HL.out HO.out (by omega) x HX.out).mono ?_
      rintro e w2 ⟨rfl, hp⟩
      have HL2 := Lib.hid hp.out
      clear hp x0 x1 x2 x3 x4 x5 x6
      obtain ⟨b1', o1', e', lb1', x0, x1, x2, x3, x4, x5, x6⟩ := Trs.pick (Row.keep HA.out (HL2.out.old) (fun _ _ _ => id)) HXe.out
      cases e'
      clear x1 x2 x3 x4 x5 x6
      have hxw := HX.out
      unfold Tr.wf at hxw
      have c0 := hxw.1
      have c1 := hxw.2.1
      clear hxw
      go_wp2_with fail
      refine (Clear_l HL2.out (HO.out.raise HX.out) (by omega) x.code c0 c1).mono ?_
      rintro e w3 ⟨rfl, hp⟩
      obtain ⟨t3, ht3⟩ : ∃ t3, t3 = ((t.raise x).2.clear x.code).2 := ⟨_, rfl⟩
      have HL3 : Hid (Liv w w3 g t3) := Lib.hid (by rw [ht3]; exact hp.out)
      have HO3 : Hid (Ok 9 inh (j + 1) t3) := Lib.hid (by rw [ht3]; exact (HO.out.raise HX.out).clear x.code)
      have HQ3 : Hid (QI inh s any t3) := Lib.hid (by
        unfold QI
        rw [ht3, clear_quiet, raise_quiet]
        exact HQ.out)
      clear hp x0 c0 c1 HL HO HQ HL2 HX HXe ht3
      go_upto_if 53 with fail
      go_cut [12] (fun s12 wx => ∃ m : Nat, m ≤ 255 ∧ s12 = .int .i64 m ∧ wx = w3)
      case first =>
        by_cases hc0 : 0 < c
        · have hci : (0 : Int) < (c : Int) := by omega
          have hml : j % c < c := Nat.mod_lt _ hc0
          obtain ⟨y, hy⟩ : ∃ y, gs[j % c]? = some y := ⟨gs[j % c]'(by rw [← HC.out]; exact hml), List.getElem?_eq_getElem _⟩
          obtain ⟨b2, o2, rfl, lb2, gb⟩ := (HB.out.keep HL3.out.old (fun _ _ _ => id)) (j % c) (.int .u8 y) (by rw [ints_get, hy]; rfl)
          obtain ⟨y0, y1⟩ := HGS.out y (List.mem_of_getElem? hy)
          obtain ⟨q, hq⟩ : ∃ q, q = j % c := ⟨_, rfl⟩
          rw [← hq] at hml gb
          have hm1 : (j : Int) % (c : Int) = (q : Int) := by rw [hq]; omega
          have hm2 : (j : Int).tmod (c : Int) = (q : Int) := by rw [Int.tmod_eq_emod_of_nonneg (by omega)]; exact hm1
          have hm3 : (q : Int) < (c : Int) := by omega
          have hcz : ¬ (c : Int) = 0 := by omega
          clear hy hq
          go_wp2_with fail
          go_meet
          exact ⟨y.toNat, by omega, by go_num, rfl⟩
        · have hci : ¬ (0 : Int) < (c : Int) := by omega
          go_wp2_with fail
          go_meet
          exact ⟨1, by omega, rfl, rfl⟩
      case rest =>
        obtain ⟨m, hm, rfl, rfl⟩ := hcut
        go_wp2_with fail
        obtain ⟨wo, hwo⟩ : ∃ x, x = wr := ⟨_, rfl⟩
        subst hwo
        have hj1 : (j : Int) ≤ 17592186044000 := by omega
        go_loopg [9, 10, 13] m (fun k s9 s10 s13 wr => ∃ (q : Nat) (s' : Int) (any : Bool) (t : Tl), q ≤ m ∧ k = m - q ∧ s13 = .int .i64 q ∧ 0 ≤ s' ∧ s' ≤ s + (q : Int) ∧ s9 = .int .i64 s' ∧ s10 = .bool any ∧ Liv w wr g t ∧ Ok 9 inh (j + 1) t ∧ Hid (QI inh s' any t))
        case atStart => exact ⟨0, s, any, t3, Nat.zero_le _, rfl, rfl, s0, by omega, rfl, rfl, HL3.out, HO3.out, HQ3.out⟩
        case round =>
          obtain ⟨q, s', any', t, hq, hk, rfl, s0', s1', rfl, rfl, hL, hO, HQ⟩ := hrel
          have HL := Lib.hid hL
          have HO := Lib.hid hO
          have HM2 := Lib.hid hk
          have HS2 := Lib.hid s1'
          have hs2 : s' ≤ 17592186044000 * 256 := by omega
          clear HL3 HO3 HQ3 hL hO hk s1'
          by_cases hlt2 : q < m
          · have h3 : (q : Int) < (m : Int) := by omega
            go_wp2_with fail
            refine (Frame_l HL.out HO.out).mono ?_
            rintro e w4 ⟨rfl, hp⟩
            obtain ⟨⟨f, b, t4⟩, hfr⟩ : ∃ r, r = t.frame := ⟨_, rfl⟩
            rw [← hfr] at hp ⊢
            have HF := Lib.hid hfr.symm
            have HO4 : Hid (Ok 9 inh (j + 1) t4) := Lib.hid (by have h := HO.out.frame; rw [← hfr] at h; exact h)
            have HL4 : Hid (Liv w w4 g t4) := Lib.hid hp.out
            unfold Fr.v
            clear hp hfr
            cases b with
            | true =>
              have HZ := Lib.hid (frame_is HF.out HO.out.q0)
              have HT : Hid (any' = true → (s' < inh) = False) := Lib.hid (fun ha => by
                have := HQ.out ha
                have := HZ.out.1
                simp only [eq_iff_iff, iff_false]
                omega)
              have hany : any' = false ∨ (any' = true ∧ inh ≤ s') := by
                cases any' with
                | false => exact .inl rfl
                | true => exact .inr ⟨rfl, by have := HQ.out rfl; have := HZ.out.1; omega⟩
              clear HL HO HQ
              have HQ5 : Hid (QI inh 1 true t4.tick) := Lib.hid (QI.tick (s := 0) (by
                intro _
                rw [HZ.out.2, ← HO4.out.inh]
                have := HZ.out.2
                have h1 := HO4.out.inh
                have h2 := frame_inh HF.out
                omega) HO4.out.q0)
              rcases hany with rfl | ⟨rfl, hle⟩
              · go_wp2_with fail
                refine (Tick_l (HL4.out.keep ((Keep.refl Zero w4).alloc _)) HO4.out).mono ?_
                rintro e w5 ⟨rfl, hp⟩
                have HL5 := Lib.hid hp.out
                clear hp
                go_wp2_with fail
                go_roundg (m - (q + 1))
                case measure => rw [HM2.out]; omega
                case rel => exact ⟨q + 1, 1, true, t4.tick, by omega, rfl, by go_num, by omega, by omega, by go_num, rfl, HL5.out, HO4.out.tick, HQ5⟩
              · have hlf : ¬ s' < inh := by omega
                go_wp2_with fail
                refine (Tick_l (HL4.out.keep ((Keep.refl Zero w4).alloc _)) HO4.out).mono ?_
                rintro e w5 ⟨rfl, hp⟩
                have HL5 := Lib.hid hp.out
                clear hp
                go_wp2_with fail
                go_roundg (m - (q + 1))
                case measure => rw [HM2.out]; omega
                case rel => exact ⟨q + 1, 1, true, t4.tick, by omega, rfl, by go_num, by omega, by omega, by go_num, rfl, HL5.out, HO4.out.tick, HQ5⟩
            | false =>
              have HZ := Lib.hid (frame_not HF.out)
              have HQ5 : Hid (QI inh (s' + 1) any' t4.tick) := Lib.hid (by rw [HZ.out]; exact QI.tick HQ.out HO.out.q0)
              clear HL HO HQ
              go_wp2_with fail
              refine (Tick_l (HL4.out.keep ((Keep.refl Zero w4).alloc _)) HO4.out).mono ?_
              rintro e w5 ⟨rfl, hp⟩
              have HL5 := Lib.hid hp.out
              clear hp
              go_wp2_with fail
              go_roundg (m - (q + 1))
              case measure => rw [HM2.out]; omega
              case rel => exact ⟨q + 1, s' + 1, any', t4.tick, by omega, rfl, by go_num, by omega, by have := HS2.out; omega, by go_num, rfl, HL5.out, HO4.out.tick, HQ5⟩
          · have h3 : ¬ (q : Int) < (m : Int) := by omega
            have HS3 : Hid (s' ≤ ((j + 1 : Nat) : Int) * 255) := Lib.hid (by have := HS1.out; have := HS2.out; omega)
            go_wp2_with fail
            go_roundg (n - (j + 1))
            case measure => rw [HM.out]; omega
            case rel => exact ⟨j + 1, s', any', t, by omega, rfl, by go_num, s0', HS3.out, rfl, rfl, HL.out, HO.out, HQ⟩
    · have h1 : ¬ (j : Int) < (n : Int) := by omega
      clear HQ s0 hs1 HS1
      obtain ⟨I, hI⟩ : ∃ I : Nat, (I : Int) = inh := ⟨inh.toNat, by omega⟩
      subst hI
      go_wp2_with fail
      obtain ⟨wo, hwo⟩ : ∃ x, x = wr := ⟨_, rfl⟩
      subst hwo
      go_loopg [16] I (fun k s16 wr => ∃ (q : Nat) (t : Tl), q ≤ I ∧ k = I - q ∧ s16 = .int .i64 q ∧ Liv w wr g t ∧ Ok 9 I j t)
      case atStart => exact ⟨0, t, Nat.zero_le _, rfl, rfl, HL.out, HO.out⟩
      case round =>
        obtain ⟨q, t, hq, hk, rfl, hL, hO⟩ := hrel
        have HL6 := Lib.hid hL
        have HO6 := Lib.hid hO
        have HM6 := Lib.hid hk
        clear HL HO hL hO hk
        by_cases hq2 : q < I
        · have h3 : (q : Int) < (I : Int) := by omega
          go_wp2_with fail
          refine (Tick_l HL6.out HO6.out).mono ?_
          rintro e w5 ⟨rfl, hp⟩
          have HL7 := Lib.hid hp.out
          clear hp
          go_wp2_with fail
          go_roundg (I - (q + 1))
          case measure => rw [HM6.out]; omega
          case rel => exact ⟨q + 1, t.tick, by omega, rfl, by go_num, HL7.out, HO6.out.tick⟩
        · have h3 : ¬ (q : Int) < (I : Int) := by omega
          go_wp2_with fail
          refine (New_l w HL6.out.old 1 I (by decide) (by decide) hi2).mono ?_
          rintro e w7 ⟨g7, rfl, hp⟩
          have HL7 := Lib.hid hp.out.1
          clear hp
          go_wp2_with fail
          refine (Raise_l (t := tQ I) HL7.out (Ok.new 1 I (by decide) (by decide) i0 hi2) (by decide) xQ (by unfold Tr.wf; decide)).mono ?_
          rintro e w8 ⟨rfl, hp⟩
          rw [raise_xQ] at hp ⊢
          have HL8 := Lib.hid hp.out
          have HO8 : Hid (Ok 1 I 1 ⟨1, I, 0, [xQ], [xQ], [fQ]⟩) := Lib.hid (by
            have h := (Ok.new 1 I (by decide) (by decide) i0 hi2).raise (x := xQ) (by unfold Tr.wf; decide)
            have e := raise_xQ I
            unfold tQ at e
            rw [e] at h
            exact h)
          clear hp
          go_wp2_with fail
          refine (Frame_l HL8.out HO8.out).mono ?_
          rintro e w9 ⟨rfl, hp⟩
          rw [frame_xQ] at hp ⊢
          have HL9 := Lib.hid hp.out
          obtain ⟨f9, hf9⟩ : ∃ f, f = fQ := ⟨_, rfl⟩
          rw [← hf9]
          unfold Fr.v
          clear hp hf9
          go_wp2_with ((with_reducible refine (lives_any _).mono ?_); rintro e w' ⟨rfl, hk⟩)
          go_ret
          rename_i hk
          exact ⟨rfl, ((HL9.out.old.alloc _).trans hk.out (fun i hi => hi.elim))⟩
end Go.Proofs.Ytagklcmkdjgblaa.Emcy
