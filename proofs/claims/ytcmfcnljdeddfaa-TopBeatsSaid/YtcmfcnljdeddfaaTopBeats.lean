/- TopBeats's walk. -/
import Derived.Test.YtcmfcnljdeddfaaTopI
import Derived.Laws.Tables
import Derived.Deep.CutBlock
import Derived.Deep.DeepCutAuto
namespace Go.Proofs.Ytcmfcnljdeddfaa.Beat
open Go.RowKit Go.Proofs.Ytcmfcnljdeddfaa.Own Go.Proofs.Ytcmfcnljdeddfaa.Nmt
theorem Nk.init : Nk ⟨9, 9, 0, 0, 0⟩ := ⟨rfl, rfl, .inl rfl⟩

set_option maxRecDepth 100000 in
set_option maxHeartbeats 16000000 in
theorem beats_walk (w : World) (A : Option Addr) (cap : Nat) (xs : List Int) (x : Int) (hr : Row w A (ints .u8 xs)) (hx : ∀ y ∈ xs, 0 ≤ y ∧ y ≤ 255) (hl : xs.length ≤ 140737488351232) (x0 : 0 ≤ x) (_ : x ≤ 255) :
    Calls Try.prog 3 #[.slice A xs.length cap, .int .u8 x] w fun e w' => e = .returned (.bool true) ∧ Keep Zero w w' := by
  have HR := Lib.hid hr
  have HX := Lib.hid hx
  obtain ⟨n, hn⟩ : ∃ n, n = xs.length := ⟨_, rfl⟩
  have HN := Lib.hid hn
  rw [← hn] at hl ⊢
  clear hr hx hn
  have hm : x.tmod 5 = x % 5 := Int.tmod_eq_emod_of_nonneg x0
  obtain ⟨ev, hev⟩ : ∃ ev, ev = x % 5 + 1 := ⟨_, rfl⟩
  have he1 : 1 ≤ ev := by omega
  have he5 : ev ≤ 5 := by omega
  go_enter Try.func3, Try.ntmps3
  go_wp2_with fail
  refine (New_ok 9 (by omega) (by omega) _).mono ?_
  rintro e w1 ⟨gn, rfl, hd, hg, hk⟩
  have H1 := Lib.hid (And.intro hd (And.intro hg hk))
  clear hd hg hk
  go_wp2_with fail
  rw [show 1 + x % 5 = ev by omega]
  clear hm hev
  refine (NewHeart_ok ev he1 he5 _).mono ?_
  rintro e w2 ⟨gh, rfl, hh, hg, hk⟩
  have H2 := Lib.hid (And.intro hh (And.intro hg hk))
  clear hh hg hk
  go_wp2_with fail
  have hB : Blk (w2.alloc (.cells #[.int .i64 9, .int .u64 20] 35)) w2.heap.size #[.int .i64 9, .int .u64 20] 35 := Blk.new _ _ _
  refine (NewWatcher_ok _ w2.heap.size _ (hB.cell 0) (hB.cell 1)).mono ?_
  rintro e w3 ⟨gw, a, b, c, rfl, hw, h1, h2, h3, hk⟩
  have HS : Hid (BS w w3 gn gh gw a b c ⟨9, 9, 0, 0, 0⟩ ev ev ⟨0, false, false, 0⟩) := Lib.hid (by
    obtain ⟨nd, n1, k1⟩ := H1.out
    obtain ⟨ht, n2, k2⟩ := H2.out
    have k3 : Keep Zero w2 w3 := ((Keep.refl Zero w2).alloc _).trans hk (fun i hi => hi.elim)
    have l1 := Blk.lt nd
    have l2 := Blk.lt ht
    have z1 := k1.size
    have z2 := k2.size
    have z3 := k3.size
    simp only [World.alloc, Array.size_push] at h1 h2 h3
    exact ⟨(nd.keep k2 id).keep k3 id, Blk.keep ht k3 id, hw, (k1.trans k2 (fun i hi => hi.elim)).trans k3 (fun i hi => hi.elim), n1, by omega, by omega, by omega, by omega, by omega, by omega, by omega, by omega, by omega⟩)
  clear hw h1 h2 h3 hk hB H1 H2
  go_wp2_with fail
  go_loopg [11, 12, 13] n (fun k s11 s12 s13 wr => ∃ (j : Nat) (d : Nd) (l st since last : Int) (there any : Bool), j ≤ n ∧ k = n - j ∧ s13 = .int .i64 j ∧ s12 = .bool any ∧ s11 = .int .i64 last ∧ Hid (BS w wr gn gh gw a b c d ev l ⟨st, there, false, since⟩ ∧ End d ev l st since there any last))
  case atStart => exact ⟨0, _, ev, 0, 0, 0, false, false, Nat.zero_le _, rfl, rfl, rfl, rfl, HS.out, Nk.init, he1, Int.le_refl _, he5, Int.le_refl _, by omega, fun k => (by cases k), fun k => (by cases k)⟩
  case round =>
    obtain ⟨j, d, l, st, since, last, there, any, hj, hk, rfl, rfl, rfl, HB⟩ := hrel
    have HM := Lib.hid hk
    clear hk HS
    by_cases hlt : j < n
    · have h1 : (j : Int) < (n : Int) := by omega
      have h0 : (0 : Int) ≤ (j : Int) := by omega
      obtain ⟨y, hy⟩ : ∃ y, xs[j]? = some y := ⟨xs[j]'(by rw [← HN.out]; exact hlt), List.getElem?_eq_getElem _⟩
      have hy01 := HX.out y (List.mem_of_getElem? hy)
      have y0 := hy01.1
      have y1 := hy01.2
      have HY := Lib.hid hy
      clear hy hy01
      go_upto_region 10 with fail
      go_cut [14, 15] (fun s14 s15 wx => ∃ A n c' r, s14 = .slice A n c' ∧ s15 = .bool r ∧ Hid ((r = true → ∃ q o, A = some ⟨q, o, none⟩ ∧ n = 1 ∧ wx.cell? ⟨q, o, none⟩ = some (.int .u8 0) ∧ q ≠ b ∧ BS w wx gn gh gw a b c { d with state := 127 } ev l ⟨st, there, false, since⟩) ∧ (r = false → d.state ≠ 0 ∧ BS w wx gn gh gw a b c d ev l ⟨st, there, false, since⟩)))
      case first =>
        by_cases hs : d.state = 0
        · have E := Lib.hid hs
          clear hs
          go_wp2_with fail
          refine (B_step0 HB.out.1 HB.out.2.1 E.out).mono ?_
          rintro e w4 ⟨q, o, c', rfl, hq, hqb, HB4⟩
          have HQ := Lib.hid (And.intro hq hqb)
          clear hq hqb
          go_wp2_with fail
          go_meet
          exact ⟨_, _, _, true, rfl, rfl, fun _ => ⟨q, o, rfl, rfl, HQ.out.1, HQ.out.2, HB4.out⟩, fun h => (by cases h)⟩
        · have E := Lib.hid hs
          clear hs
          go_wp2_with fail
          refine (B_step1 HB.out.1 E.out).mono ?_
          rintro e w4 ⟨A4, n4, c', rfl, HB4⟩
          go_wp2_with fail
          go_meet
          exact ⟨_, _, _, false, rfl, rfl, fun h => (by cases h), fun _ => ⟨E.out, HB4.out⟩⟩
      case rest =>
        obtain ⟨A4, n4, c4, r, rfl, rfl, HC⟩ := hcut
        obtain ⟨w4, hw4⟩ : ∃ w4, w4 = wc := ⟨_, rfl⟩
        subst hw4
        go_upto_if 74 with fail
        go_cut [12] (fun s12 wx => ∃ (d2 : Nd) (st2 since2 : Int) (there2 any2 : Bool), s12 = .bool any2 ∧ Hid (BS w wx gn gh gw a b c d2 ev l ⟨st2, there2, false, since2⟩ ∧ Mid d2 ev l st2 since2 there2 any2 last))
        case first =>
          cases r with
          | true =>
            obtain ⟨q, o, rfl, rfl, hq, hqb, hB⟩ := HC.out.1 rfl
            have HQ := Lib.hid (And.intro hq (And.intro hqb hB))
            clear hq hqb hB
            go_wp2_with fail
            refine (B_reset HQ.out.2.2 q o _ HQ.out.1 HQ.out.2.1).mono ?_
            rintro e w5 ⟨⟨A5, n5, m5, r5, rfl⟩, HB5⟩
            go_wp2_with fail
            go_meet
            exact ⟨_, _, _, _, _, rfl, HB5.out, HB.out.2.fresh⟩
          | false =>
            have HQ := Lib.hid (HC.out.2 rfl)
            go_wp2_with fail
            go_meet
            exact ⟨_, _, _, _, _, rfl, HQ.out.2, HB.out.2.mid HQ.out.1⟩
        case rest =>
          obtain ⟨d2, st2, since2, there2, any2, rfl, HD⟩ := hcut
          obtain ⟨w5, hw5⟩ : ∃ w5, w5 = wc := ⟨_, rfl⟩
          subst hw5
          clear HC HB
          have HRw : Hid (Row w5 A (ints .u8 xs)) := Lib.hid (HR.out.keep HD.out.1.kp (fun _ _ _ => id))
          obtain ⟨bA, oA, rfl, lA, hA⟩ := HRw.out j (.int .u8 y) (by rw [ints_get, HY.out]; rfl)
          clear HRw
          go_upto_region 14 with fail
          go_cut [16] (fun s16 wx => ∃ x : Int, s16 = .int .i64 x ∧ Hid ((x ≠ 0 → x = 1 ∨ x = 2 ∨ x = 128 ∨ x = 129 ∨ x = 130) ∧ BS w wx gn gh gw a b c d2 ev l ⟨st2, there2, false, since2⟩))
          case first =>
            have hm2 : y.tmod 8 = y % 8 := Int.tmod_eq_emod_of_nonneg y0
            have hc8 : y % 8 = 0 ∨ y % 8 = 1 ∨ y % 8 = 2 ∨ y % 8 = 3 ∨ y % 8 = 4 ∨ y % 8 = 5 ∨ y % 8 = 6 ∨ y % 8 = 7 := by omega
            rcases hc8 with h8 | h8 | h8 | h8 | h8 | h8 | h8 | h8
            all_goals
              go_wp2_with fail
              go_meet
              refine ⟨_, rfl, fun h => (by first | exact absurd rfl h | decide), HD.out.1.zero ((Keep.refl Zero _).alloc _)⟩
          case rest =>
            obtain ⟨cm, rfl, HE⟩ := hcut
            obtain ⟨w6, hw6⟩ : ∃ w6, w6 = wc := ⟨_, rfl⟩
            subst hw6
            have HMd := Lib.hid HD.out.2
            clear HD hA lA
            go_upto_if 87 with fail
            go_cut [] (fun wx => ∃ d3 : Nd, Hid (BS w wx gn gh gw a b c d3 ev l ⟨st2, there2, false, since2⟩ ∧ Mid d3 ev l st2 since2 there2 any2 last))
            case first =>
              by_cases hz : cm = 0
              · have hb : (cm != 0) = false := by simp [hz]
                clear hz
                go_wp2_with fail
                go_meet
                exact ⟨_, HE.out.2, HMd.out⟩
              · have hb : (cm != 0) = true := by simp [hz]
                have HZ := Lib.hid (HE.out.1 hz)
                clear hz
                go_wp2_with fail
                refine (B_cmd HE.out.2 cm HZ.out).mono ?_
                rintro e w7 ⟨A7, m7, rfl, HB7⟩
                go_wp2_with fail
                refine (B_take HB7.out.2.2 A7 m7 _ HB7.out.1 HB7.out.2.1).mono ?_
                rintro e w8 ⟨⟨v8, rfl⟩, HB8⟩
                go_wp2_with fail
                go_meet
                exact ⟨_, HB8.out, HMd.out.does _⟩
            case rest =>
              obtain ⟨d3, HD3⟩ := hcut
              obtain ⟨w7, hw7⟩ : ∃ w7, w7 = wc := ⟨_, rfl⟩
              subst hw7
              clear HE HMd
              go_wp2_with fail
              refine (B_tick HD3.out.1 HD3.out.2.2.2.2.2.1 (by have := HD3.out.2.2.2.2.2.2.1; omega)).mono ?_
              rintro e w8 ⟨⟨A8, n8, m8, rfl⟩, HB8⟩
              go_upto_region 19 with fail
              go_cut [19, 20] (fun s19 s20 wx => ∃ A n c' r, s19 = .slice A n c' ∧ s20 = .bool r ∧ Hid ((r = true → ∃ q o, A = some ⟨q, o, none⟩ ∧ n = 1 ∧ wx.cell? ⟨q, o, none⟩ = some (.int .u8 d3.state) ∧ q ≠ b ∧ d3.state ≠ 0 ∧ BS w wx gn gh gw a b c d3 ev ev ⟨st2, there2, false, tickF there2 since2⟩) ∧ (r = false → (l ≠ 1 ∨ d3.state = 0) ∧ BS w wx gn gh gw a b c d3 ev (if l = 1 then ev else l - 1) ⟨st2, there2, false, tickF there2 since2⟩)))
              case first =>
                by_cases hs : l = 1 ∧ d3.state ≠ 0
                · have E := Lib.hid hs
                  clear hs
                  go_wp2_with fail
                  refine (B_state HB8.out).mono ?_
                  rintro e w' ⟨rfl, rfl⟩
                  go_wp2_with fail
                  refine (B_heart1 HB8.out HD3.out.2.1 E.out.1 HD3.out.2.2.2.1 he5 E.out.2).mono ?_
                  rintro e w9 ⟨q, o, m9, rfl, hq, hqb, HB9⟩
                  have HQ := Lib.hid (And.intro hq hqb)
                  clear hq hqb
                  go_wp2_with fail
                  go_meet
                  exact ⟨_, _, _, true, rfl, rfl, fun _ => ⟨q, o, rfl, rfl, HQ.out.1, HQ.out.2, E.out.2, HB9.out⟩, fun h => (by cases h)⟩
                · have E : Hid (l ≠ 1 ∨ d3.state = 0) := Lib.hid (by
                    by_cases h2 : l = 1
                    · exact .inr (Decidable.byContradiction fun h3 => hs ⟨h2, h3⟩)
                    · exact .inl h2)
                  clear hs
                  go_wp2_with fail
                  refine (B_state HB8.out).mono ?_
                  rintro e w' ⟨rfl, rfl⟩
                  go_wp2_with fail
                  refine (B_heart0 HB8.out HD3.out.2.1 HD3.out.2.2.1 HD3.out.2.2.2.1 he5 E.out).mono ?_
                  rintro e w9 ⟨A9, n9, m9, rfl, HB9⟩
                  go_wp2_with fail
                  go_meet
                  exact ⟨_, _, _, false, rfl, rfl, fun h => (by cases h), fun _ => ⟨E.out, HB9.out⟩⟩
              case rest =>
                obtain ⟨A9, n9, c9, r, rfl, rfl, HC⟩ := hcut
                obtain ⟨w9, hw9⟩ : ∃ w9, w9 = wc := ⟨_, rfl⟩
                subst hw9
                clear HB8
                go_upto_if 105 with fail
                go_cut [11, 12] (fun s11 s12 wx => ∃ (l4 st4 since4 last4 : Int) (there4 any4 : Bool), s11 = .int .i64 last4 ∧ s12 = .bool any4 ∧ Hid (BS w wx gn gh gw a b c d3 ev l4 ⟨st4, there4, false, since4⟩ ∧ End d3 ev l4 st4 since4 there4 any4 last4))
                case first =>
                  cases r with
                  | true =>
                    obtain ⟨q, o, rfl, rfl, hq, hqb, hsz, hB⟩ := HC.out.1 rfl
                    have HQ := Lib.hid (And.intro hq (And.intro hqb (And.intro hsz hB)))
                    clear hq hqb hB hsz
                    go_wp2_with fail
                    refine (B_beat HQ.out.2.2.2 q o _ d3.state (by have := HD3.out.2.1.2.2; have := HQ.out.2.2.1; omega) HQ.out.1 HQ.out.2.1).mono ?_
                    rintro e w10 ⟨⟨A5, n5, m5, r5, rfl⟩, HB10⟩
                    go_wp2_with fail
                    refine (B_state HB10.out).mono ?_
                    rintro e w' ⟨rfl, rfl⟩
                    go_wp2_with fail
                    go_meet
                    exact ⟨_, _, _, _, _, _, rfl, rfl, HB10.out, HD3.out.2.beat⟩
                  | false =>
                    have HQ := Lib.hid (HC.out.2 rfl)
                    go_wp2_with fail
                    go_meet
                    exact ⟨_, _, _, _, _, _, rfl, rfl, HQ.out.2, HD3.out.2.still HQ.out.1⟩
                case rest =>
                  obtain ⟨l4, st4, since4, last4, there4, any4, rfl, rfl, HF⟩ := hcut
                  obtain ⟨w10, hw10⟩ : ∃ w10, w10 = wc := ⟨_, rfl⟩
                  subst hw10
                  clear HC HD3
                  go_wp2_with fail
                  refine (B_says HF.out.1).mono ?_
                  rintro e w11 ⟨rfl, HG⟩
                  have HR2 : Hid (BS w w11 gn gh gw a b c d3 ev l4 ⟨st4, there4, false, since4⟩ ∧ End d3 ev l4 st4 since4 there4 any4 last4) := Lib.hid ⟨HG.out, HF.out.2⟩
                  clear HG HF
                  cases any4 with
                  | false =>
                    go_wp2_with fail
                    go_roundg (n - (j + 1))
                    case measure => rw [HM.out]; omega
                    case rel => exact ⟨j + 1, d3, l4, st4, since4, last4, there4, _, hlt, rfl, by go_num, rfl, rfl, HR2⟩
                  | true =>
                    by_cases hz : d3.state = 0
                    · have hb : (d3.state != 0) = false := by simp [hz]
                      clear hz
                      go_wp2_with ((with_reducible refine (B_state HR2.out.1).mono ?_); rintro e w' ⟨rfl, rfl⟩)
                      go_roundg (n - (j + 1))
                      case measure => rw [HM.out]; omega
                      case rel => exact ⟨j + 1, d3, l4, st4, since4, last4, there4, _, hlt, rfl, by go_num, rfl, rfl, HR2⟩
                    · have hb : (d3.state != 0) = true := by simp [hz]
                      obtain ⟨rfl, rfl⟩ := HR2.out.2.2.2.2.2.2.2.2 rfl hz
                      have hb2 : (stF true st4 != st4) = false := by simp [stF]
                      clear hz
                      go_wp2_with ((with_reducible refine (B_state HR2.out.1).mono ?_); rintro e w' ⟨rfl, rfl⟩)
                      go_roundg (n - (j + 1))
                      case measure => rw [HM.out]; omega
                      case rel => exact ⟨j + 1, d3, l4, st4, since4, st4, true, _, hlt, rfl, by go_num, rfl, rfl, HR2⟩
    · have h1 : ¬ (j : Int) < (n : Int) := by omega
      go_wp2_with fail
      go_ret
      exact ⟨rfl, HB.out.1.kp⟩
end Go.Proofs.Ytcmfcnljdeddfaa.Beat
