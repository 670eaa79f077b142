/- NmtOthers's walk. -/
import Derived.Test.YtghnegidhfmphaaNmtF
import Derived.Test.YtghnegidhfmphaaNmtArgs
namespace Go.Proofs.Ytghnegidhfmphaa.Nmt
open Go.RowKit Go.Proofs.Ytghnegidhfmphaa.Own
def Nd.act (d : Nd) (x : NAct) : Nd := if x.kind = 0 then d.does (d.cmd x.b) else if x.kind = 1 then d.step else if x.kind = 2 then d.sets x.n else d
def Two (g h : Nat) : Nat → Prop := fun k => k = g ∨ k = h
def DoesPost (w : World) (g h : Nat) (a d : Nd) (x : NAct) (e : Ending) (w' : World) : Prop := e = .returned (.tuple #[]) ∧ IsNd w' g (a.act x) ∧ IsRf w' h (d.act x) ∧ Keep (Two g h) w w'

set_option maxRecDepth 100000 in
set_option maxHeartbeats 4000000 in
theorem does_any {w : World} {g h : Nat} {a d : Nd} (ha : IsNd w g a) (hd : IsRf w h d) (x : NAct) (A : Option Addr) (c : Nat) (hr : Row w A (ints .u8 x.b)) (hby : ∀ z, z ∈ x.b → 0 ≤ z ∧ z ≤ 255) (hnil : A = none → c = 0) (hsz : x.b.length ≤ 140737488351232) (hne : ∀ q, A = some q → x.b ≠ [] → q.block ≠ g ∧ q.block ≠ h) :
    Calls Try.prog 14 #[.pointer (some ⟨g, 0, none⟩), .pointer (some ⟨h, 0, none⟩), .agg #[.int .i64 x.kind, .int .i64 x.n, .slice A x.b.length c]] w (DoesPost w g h a d x) := by
  have hgh : g ≠ h := fun e => by
    subst e
    unfold IsNd Blk at ha
    unfold IsRf Blk at hd
    rw [ha] at hd
    injection hd with hd
    injection hd with _ ht
    cases ht
  have HA := Lib.hid (ha.alloc (.cells #[.int .i64 x.kind, .int .i64 x.n, .slice A x.b.length c] 29))
  have HD := Lib.hid (hd.alloc (.cells #[.int .i64 x.kind, .int .i64 x.n, .slice A x.b.length c] 29))
  have HB := Lib.hid (Blk.new w #[.int .i64 x.kind, .int .i64 x.n, .slice A x.b.length c] 29)
  have HK := Lib.hid ((Keep.refl (Two g h) w).alloc (.cells #[.int .i64 x.kind, .int .i64 x.n, .slice A x.b.length c] 29))
  have HR := Lib.hid hr
  have HY := Lib.hid hby
  have HN := Lib.hid hnil
  have HE := Lib.hid hne
  have hg := ha.lt
  have hh := hd.lt
  have HGH := Lib.hid hgh
  clear ha hd hr hby hnil hne hgh
  by_cases k0 : x.kind = 0
  · have e0 : (x.kind == 0) = true := by simp [k0]
    have e1 : (x.kind == 1) = false := by simp [k0]
    have e2 : (x.kind == 2) = false := by simp [k0]
    have K := Lib.hid k0
    clear k0
    go_enter Try.func14, Try.ntmps14
    go_wp2_with (at_builtin; refine app_copy rfl (.tmp 11) (.tmp 13) 27 rfl 5 (.int .u8 0) 1 1 under27 info5 rfl (by decide) (w.heap.size + 1) rfl (Blk.at_ (by simp)) A x.b.length c (ints .u8 x.b) rfl (by rw [ints_length]; omega) HN.out (HR.out.keep (((Keep.refl Zero _).alloc _).alloc _) (fun _ _ _ => id)) (ints_one _ _) (by unfold maxLen; omega) (by omega) ?_; intro A' c' w2 _ _ hr2 hk2 ha2)
    have HK2 := Lib.hid (((Keep.refl Zero (w.alloc (.cells #[.int .i64 x.kind, .int .i64 x.n, .slice A x.b.length c] 29))).alloc _).trans hk2 (fun i hi => .inr (by unfold Own.One at hi; simp; omega)))
    have HR2 := Lib.hid hr2
    have HA2 := Lib.hid ha2
    clear hk2 hr2 ha2
    refine (Take_any (HA.out.keep HK2.out id) A' _ c' x.b ⟨rfl, HR2.out, HY.out⟩ (fun a ha _ e => by have := HA2.out a ha; omega)).mono ?_
    rintro e w3 ⟨rfl, ha3, hk3⟩
    have HA3 := Lib.hid ha3
    have HK3 := Lib.hid hk3
    have hc := ((HB.out.keep HK2.out id).keep hk3 (fun e => by unfold Own.One at e; omega)).cell 2
    have hc' : w3.cell? ⟨w.heap.size, 2, none⟩ = some (.slice A x.b.length c) := hc
    clear ha3 hk3 hc
    go_wp2_with fail
    refine (RTake_any ((HD.out.keep HK2.out id).keep HK3.out (fun e => HGH.out (by cases e; rfl))) A _ c x.b ⟨rfl, (HR.out.keep (((Keep.refl Zero w).alloc _).trans HK2.out (fun i hi => hi.elim)) (fun _ _ _ => id)).keep HK3.out (fun q hq hn e => (HE.out q hq (fun e => hn (by rw [e]; rfl))).1 e), HY.out⟩ (fun q hq hn => (HE.out q hq hn).2)).mono ?_
    rintro e w4 ⟨rfl, hd4, hk4⟩
    have HP : Hid (DoesPost w g h a d x (.returned (.tuple #[])) w4) := by
      refine ⟨rfl, ?_, ?_, ?_⟩
      · unfold Nd.act; rw [if_pos K.out]; exact HA3.out.keep hk4 (fun e => HGH.out e)
      · unfold Nd.act; rw [if_pos K.out]; exact hd4
      · exact ((HK.out.trans HK2.out (fun i hi => hi.elim)).trans HK3.out (fun i hi => .inl (.inl hi))).trans hk4 (fun i hi => .inl (.inr hi))
    clear hd4 hk4 hc'
    go_wp2
    go_end0
    exact HP.out
  by_cases k1 : x.kind = 1
  · have e0 : (x.kind == 0) = false := by simp [k1]
    have e1 : (x.kind == 1) = true := by simp [k1]
    have e2 : (x.kind == 2) = false := by simp [k1]
    have K := Lib.hid (And.intro k0 k1)
    clear k0 k1
    go_enter Try.func14, Try.ntmps14
    go_wp2_with fail
    refine (Step_hid HA.out).mono ?_
    rintro e w2 ⟨A', n', c', r', rfl, HS⟩
    go_wp2_with fail
    refine (RStep_any (HD.out.keep HS.out.2.2.2.2 (fun e => HGH.out (by cases e; rfl)))).mono ?_
    rintro e w3 ⟨rfl, hd3, hk3⟩
    have HP : Hid (DoesPost w g h a d x (.returned (.tuple #[])) w3) := by
      refine ⟨rfl, ?_, ?_, ?_⟩
      · unfold Nd.act; rw [if_neg K.out.1, if_pos K.out.2]; exact HS.out.2.2.2.1.keep hk3 (fun e => HGH.out e)
      · unfold Nd.act; rw [if_neg K.out.1, if_pos K.out.2]; exact hd3
      · exact (HK.out.trans HS.out.2.2.2.2 (fun i hi => .inl (.inl hi))).trans hk3 (fun i hi => .inl (.inr hi))
    clear hd3 hk3
    go_wp2
    go_end0
    exact HP.out
  by_cases k2 : x.kind = 2
  · have e0 : (x.kind == 0) = false := by simp [k2]
    have e1 : (x.kind == 1) = false := by simp [k2]
    have e2 : (x.kind == 2) = true := by simp [k2]
    have K := Lib.hid (And.intro k0 (And.intro k1 k2))
    clear k0 k1 k2
    go_enter Try.func14, Try.ntmps14
    go_wp2_with fail
    obtain ⟨r, hr⟩ : ∃ r : Int, r = if 0 ≤ x.n ∧ x.n ≤ 127 then 0 else 1 := ⟨_, rfl⟩
    have HRR := Lib.hid hr
    clear hr
    refine (SetID_r HA.out x.n r HRR.out).mono ?_
    rintro e w2 ⟨rfl, HA2, HK2⟩
    have hc : w2.cell? ⟨w.heap.size, 1, none⟩ = some (.int .i64 x.n) := (HB.out.keep HK2.out (fun e => by unfold Own.One at e; omega)).cell 1
    go_wp2_with fail
    all_goals
      refine (RSetID_r (HD.out.keep HK2.out (fun e => HGH.out (by cases e; rfl))) x.n r HRR.out).mono ?_
      rintro e w3 ⟨rfl, HD3, HK3⟩
      have hd3 := HD3.out
      have hk3 := HK3.out
      have HP : Hid (DoesPost w g h a d x (.returned (.tuple #[])) w3) := by
        refine ⟨rfl, ?_, ?_, ?_⟩
        · unfold Nd.act; rw [if_neg K.out.1, if_neg K.out.2.1, if_pos K.out.2.2]; exact HA2.out.keep hk3 (fun e => HGH.out e)
        · unfold Nd.act; rw [if_neg K.out.1, if_neg K.out.2.1, if_pos K.out.2.2]; exact hd3
        · exact (HK.out.trans HK2.out (fun i hi => .inl (.inl hi))).trans hk3 (fun i hi => .inl (.inr hi))
      clear hd3 hk3 HD3 HK3
      go_wp2
      all_goals
        go_end0
        exact HP.out
  · have e0 : (x.kind == 0) = false := by simp [k0]
    have e1 : (x.kind == 1) = false := by simp [k1]
    have e2 : (x.kind == 2) = false := by simp [k2]
    have K := Lib.hid (And.intro k0 (And.intro k1 k2))
    clear k0 k1 k2
    have HP : Hid (DoesPost w g h a d x (.returned (.tuple #[])) (w.alloc (.cells #[.int .i64 x.kind, .int .i64 x.n, .slice A x.b.length c] 29))) := by
      refine ⟨rfl, ?_, ?_, HK.out⟩
      · unfold Nd.act; rw [if_neg K.out.1, if_neg K.out.2.1, if_neg K.out.2.2]; exact HA.out
      · unfold Nd.act; rw [if_neg K.out.1, if_neg K.out.2.1, if_neg K.out.2.2]; exact HD.out
    go_enter Try.func14, Try.ntmps14
    go_wp2
    go_end0
    exact HP.out

set_option maxRecDepth 100000 in
set_option maxHeartbeats 8000000 in
theorem others_walk (A : Option Addr) (c : Nat) (acts : List NAct) (w : World) (ha : ActsAt w A acts) (hl : acts.length ≤ 9223372036854775807) (com node : Int) :
    Calls Try.prog 5 #[.slice A acts.length c, .int .i64 com, .int .i64 node] w fun e w' => e = .returned (.bool true) ∧ Keep Zero w w' := by
  have HA := Lib.hid ha
  clear ha
  go_enter Try.func5, Try.ntmps5
  go_wp2_with fail
  refine (New_ok 7 (by omega) (by omega) _).mono ?_
  rintro e w1 ⟨g1, rfl, hd1, hg1, hk1⟩
  have HD1 := Lib.hid hd1
  have HK1 := Lib.hid hk1
  clear hd1 hk1
  go_wp2_with fail
  refine (New_ok 7 (by omega) (by omega) _).mono ?_
  rintro e w2 ⟨g2, rfl, hd2, hg2, hk2⟩
  have HD2 := Lib.hid hd2
  have HE1 := Lib.hid (HD1.out.keep hk2 id)
  have HK2 := Lib.hid (HK1.out.trans hk2 (fun i hi => hi.elim))
  clear hd2 hk2
  go_wp2_with fail
  refine (New_ok 7 (by omega) (by omega) _).mono ?_
  rintro e w3 ⟨g3, rfl, hd3, hg3, hk3⟩
  have HD3 := Lib.hid hd3
  have HF1 := Lib.hid (HE1.out.keep hk3 id)
  have HF2 := Lib.hid (HD2.out.keep hk3 id)
  have HK3 := Lib.hid (HK2.out.trans hk3 (fun i hi => hi.elim))
  have G12 : g1 < g2 := Nat.lt_of_lt_of_le HD1.out.lt hg2
  have G23 : g2 < g3 := Nat.lt_of_lt_of_le HD2.out.lt hg3
  have G3 : g3 < w3.heap.size := HD3.out.lt
  have hW1 := HK1.out.size
  have hW2 := HK2.out.size
  clear hd3 hk3 HD1 HE1 HK1 HD2 HK2
  go_wp2_with fail
  go_loopg [13] acts.length (fun k i wr => ∃ (j : Nat) (d : Nd), j ≤ acts.length ∧ k = acts.length - j ∧ i = .int .i64 j ∧ IsNd wr g1 d ∧ IsNd wr g2 d ∧ IsNd wr g3 d ∧ Keep Zero w wr)
  case atStart => exact ⟨0, _, Nat.zero_le _, rfl, rfl, HF1.out, HF2.out, HD3.out, HK3.out⟩
  case round =>
    obtain ⟨j, d, hj, hk, rfl, h1, h2, h3, hkp⟩ := hrel
    clear HF1 HF2 HD3 HK3
    have H1 := Lib.hid h1
    have H2 := Lib.hid h2
    have H3 := Lib.hid h3
    have HK := Lib.hid hkp
    have HM := Lib.hid hk
    clear h1 h2 h3 hkp hk
    by_cases hlt : j < acts.length
    · obtain ⟨x, hx⟩ : ∃ x, acts[j]? = some x := ⟨acts[j], List.getElem?_eq_getElem hlt⟩
      have HX := Lib.hid hx
      obtain ⟨b, o, rfl, hb, hc0, hc1, Ab, cb, hc2, hgot, hnil, hsz⟩ := HA.out j x hx
      clear hx
      have HC := Lib.hid (And.intro hc0 (And.intro hc1 hc2))
      have HG := Lib.hid hgot
      have HN := Lib.hid hnil
      have HR := Lib.hid hgot.row
      have hl1 : (j : Int) < (acts.length : Int) := by omega
      have hbw : b < wr.heap.size := Nat.lt_of_lt_of_le hb HK.out.size
      clear hc0 hc1 hc2 hgot hnil
      have hn1 : ∀ g, w.heap.size ≤ g → ∀ q, Ab = some q → x.b ≠ [] → q.block ≠ g := fun g hg q hq hn e => by have := HR.out.old hq (ints_ne hn); omega
      have HNE := Lib.hid hn1
      clear hn1
      have hz0 := ((HK.out.cell (p := ⟨b, o + j * 3, none⟩) hb id).trans HC.out.1)
      have hz1 := ((HK.out.cell (p := ⟨b, o + j * 3 + 1, none⟩) hb id).trans HC.out.2.1)
      have hz2 := ((HK.out.cell (p := ⟨b, o + j * 3 + 2, none⟩) hb id).trans HC.out.2.2)
      have HS := Lib.hid HK.out.size
      have HZ1 := Lib.hid (H1.out.alloc (.cells (Nd.mk 7 7 0 0 0).cells 40))
      have HZ2 := Lib.hid (H2.out.alloc (.cells (Nd.mk 7 7 0 0 0).cells 40))
      have HZ3 := Lib.hid (H3.out.alloc (.cells (Nd.mk 7 7 0 0 0).cells 40))
      have HR0 : Hid (IsRf (wr.alloc (.cells (Nd.mk 7 7 0 0 0).cells 40)) wr.heap.size ⟨7, 7, 0, 0, 0⟩) := Blk.new _ _ _
      have HZK := Lib.hid (HK.out.alloc (.cells (Nd.mk 7 7 0 0 0).cells 40))
      have hg3w : g3 < wr.heap.size := H3.out.lt
      clear H1 H2 H3 HK
      go_wp2_with fail
      refine (does_any HZ1.out HR0.out x Ab cb (HR.out.keep HZK.out (fun _ _ _ => id)) HG.out.byte HN.out hsz (fun q hq hn => ⟨HNE.out g1 hg1 q hq hn, HNE.out _ HS.out q hq hn⟩)).mono ?_
      rintro e w4 ⟨rfl, h4, hr4, hk4⟩
      have HY1 := Lib.hid h4
      have HY2 := Lib.hid (HZ2.out.keep hk4 (fun e => by unfold Two at e; omega))
      have HY3 := Lib.hid (HZ3.out.keep hk4 (fun e => by unfold Two at e; omega))
      have HR4 := Lib.hid hr4
      have HYK := Lib.hid (HZK.out.trans hk4 (fun i hi => .inr (by have := HS.out; unfold Two at hi; omega)))
      have hz0' := ((HYK.out.cell (p := ⟨b, o + j * 3, none⟩) hb id).trans HC.out.1)
      have hz1' := ((HYK.out.cell (p := ⟨b, o + j * 3 + 1, none⟩) hb id).trans HC.out.2.1)
      have hz2' := ((HYK.out.cell (p := ⟨b, o + j * 3 + 2, none⟩) hb id).trans HC.out.2.2)
      clear hz0 hz1 hz2 h4 hr4 hk4 HZ1 HZ2 HZ3 HR0 HZK
      go_wp2_with fail
      refine (does_any HY2.out HR4.out x Ab cb (HR.out.keep HYK.out (fun _ _ _ => id)) HG.out.byte HN.out hsz (fun q hq hn => ⟨HNE.out g2 (by omega) q hq hn, HNE.out _ HS.out q hq hn⟩)).mono ?_
      rintro e w5 ⟨rfl, h5, hr5, hk5⟩
      have HX1 := Lib.hid (HY1.out.keep hk5 (fun e => by unfold Two at e; omega))
      have HX2 := Lib.hid h5
      have HX3 := Lib.hid (HY3.out.keep hk5 (fun e => by unfold Two at e; omega))
      have HR5 := Lib.hid hr5
      have HXK := Lib.hid (HYK.out.trans hk5 (fun i hi => .inr (by have := HS.out; unfold Two at hi; omega)))
      have hz0 := ((HXK.out.cell (p := ⟨b, o + j * 3, none⟩) hb id).trans HC.out.1)
      have hz1 := ((HXK.out.cell (p := ⟨b, o + j * 3 + 1, none⟩) hb id).trans HC.out.2.1)
      have hz2 := ((HXK.out.cell (p := ⟨b, o + j * 3 + 2, none⟩) hb id).trans HC.out.2.2)
      clear hz0' hz1' hz2' h5 hr5 hk5 HY1 HY2 HY3 HR4 HYK
      go_wp2_with fail
      refine (does_any HX3.out HR5.out x Ab cb (HR.out.keep HXK.out (fun _ _ _ => id)) HG.out.byte HN.out hsz (fun q hq hn => ⟨HNE.out g3 (by omega) q hq hn, HNE.out _ HS.out q hq hn⟩)).mono ?_
      rintro e w6 ⟨rfl, h6, hr6, hk6⟩
      have HV1 := Lib.hid (HX1.out.keep hk6 (fun e => by unfold Two at e; omega))
      have HV2 := Lib.hid (HX2.out.keep hk6 (fun e => by unfold Two at e; omega))
      have HV3 := Lib.hid h6
      have HVK := Lib.hid (HXK.out.trans hk6 (fun i hi => .inr (by have := HS.out; unfold Two at hi; omega)))
      clear hz0 hz1 hz2 h6 hr6 hk6 HX1 HX2 HX3 HR5 HXK
      go_wp2_with fail
      go_roundg (acts.length - (j + 1))
      case measure => rw [HM.out]; omega
      case rel => exact ⟨j + 1, d.act x, hlt, rfl, by go_num, HV1.out, HV2.out, HV3.out, HVK.out⟩
    · have hl1 : ¬ (j : Int) < (acts.length : Int) := by omega
      clear HM
      have finish : ∀ (e : Ending) (W' : World), (e = .returned (.bool true) ∧ Hid (Keep Zero wr W')) → e = .returned (.bool true) ∧ Keep Zero w W' := fun e W' h => ⟨h.1, HK.out.trans h.2.out (fun i hi => hi.elim)⟩
      have HFin := Lib.hid finish
      clear finish
      by_cases hcan : Can com node
      · have HCan := Lib.hid hcan
        clear hcan
        go_wp2_with fail
        refine (Command_yes com node _ HCan.out).mono ?_
        rintro e w4 ⟨B, m, rfl, hr4, hm4, hb4, hk4⟩
        have HB4 := Lib.hid hb4
        have HR4 := Lib.hid hr4
        have HK4 := Lib.hid hk4
        have HY1 := Lib.hid (H1.out.keep hk4 id)
        have HY2 := Lib.hid (H2.out.keep hk4 id)
        have HY3 := Lib.hid (H3.out.keep hk4 id)
        clear hr4 hm4 hb4 hk4
        by_cases n0 : node = 0
        · have b0 : (node == 0) = true := by simp [n0]
          clear n0
          go_wp2_with ((with_reducible refine (lives_hid _).mono ?_); rintro e w' ⟨rfl, hk⟩)
          go_ret
          rename_i hk
          exact HFin.out _ _ ⟨rfl, HK4.out.trans hk.out (fun i hi => hi.elim)⟩
        · have b0 : (node == 0) = false := by simp [n0]
          have N0 := Lib.hid n0
          clear n0
          by_cases i7 : d.id = 7
          · have b1 : (d.id != 7) = false := by simp [i7]
            have I7 := Lib.hid i7
            clear i7
            go_wp2_with ((with_reducible refine (ID_any HY1.out).mono ?_); rintro e w' ⟨rfl, rfl⟩)
            refine (State_any HY1.out).mono ?_
            rintro e w' ⟨rfl, rfl⟩
            go_wp2_with fail
            obtain ⟨r, hr⟩ : ∃ r, r = d.cmd [com, node] := ⟨_, rfl⟩
            have HRR := Lib.hid hr
            clear hr
            refine (Take_r HY1.out B 2 m [com, node] ⟨rfl, HR4.out, fun z hz => by
              have hc := HCan.out
              unfold Can at hc
              simp at hz
              omega⟩ (fun a ha _ e => by have := HB4.out a ha; have := H1.out.lt; omega) r HRR.out).mono ?_
            rintro e w5 ⟨rfl, HX1, HK5⟩
            have HX2 := Lib.hid (HY2.out.keep HK5.out (fun e => by unfold Own.One at e; omega))
            have HX3 := Lib.hid (HY3.out.keep HK5.out (fun e => by unfold Own.One at e; omega))
            have HXK : Hid (Keep Zero w w5) := (HK.out.trans HK4.out (fun i hi => hi.elim)).trans HK5.out (fun i hi => .inr (by cases hi; exact hg1))
            have hn7 : node ≠ 7 → r = 0 := fun h7 => by
              have e := HRR.out
              rw [show d.cmd [com, node] = if (d.state ≠ 0 ∧ d.id ≠ 0 ∧ (node = 0 ∨ node = d.id)) ∧ (com = 1 ∨ com = 2 ∨ com = 128 ∨ com = 129 ∨ com = 130) then com else 0 from rfl, if_neg (fun k => by
                have := I7.out
                have := N0.out
                omega)] at e
              exact e
            have HN7 := Lib.hid hn7
            clear hn7
            obtain ⟨r2, hr2⟩ : ∃ r, r = d.cmd [com, 0] := ⟨_, rfl⟩
            have HR2 := Lib.hid hr2
            have hr3 : r2 = d.cmd [com, 7] := by
              rw [hr2, show d.cmd [com, 0] = if (d.state ≠ 0 ∧ d.id ≠ 0 ∧ ((0 : Int) = 0 ∨ 0 = d.id)) ∧ (com = 1 ∨ com = 2 ∨ com = 128 ∨ com = 129 ∨ com = 130) then com else 0 from rfl, show d.cmd [com, 7] = if (d.state ≠ 0 ∧ d.id ≠ 0 ∧ ((7 : Int) = 0 ∨ 7 = d.id)) ∧ (com = 1 ∨ com = 2 ∨ com = 128 ∨ com = 129 ∨ com = 130) then com else 0 from rfl, I7.out]
              simp
            have HR3 := Lib.hid hr3
            clear hr2 hr3
            have HC0 : Hid (Can com 0) := ⟨HCan.out.1, by omega, by omega⟩
            have HC7 : Hid (Can com 7) := ⟨HCan.out.1, by omega, by omega⟩
            have HP : Hid (∀ z : Int, z = com ∨ z = 0 ∨ z = 7 → 0 ≤ z ∧ z ≤ 255) := fun z hz => by
              have hc := HCan.out
              unfold Can at hc
              omega
            by_cases h7 : node = 7
            · have b7 : (node != 7) = false := by simp [h7]
              clear h7
              go_wp2_with fail
              refine (Command_yes com 0 _ HC0.out).mono ?_
              rintro e w6 ⟨B6, m6, rfl, hr6, _, hb6, hk6⟩
              have HB6 := Lib.hid hb6
              have HR6 := Lib.hid hr6
              have HK6 := Lib.hid hk6
              clear hr6 hb6 hk6
              go_wp2_with fail
              refine (Command_yes com 7 _ HC7.out).mono ?_
              rintro e w7 ⟨B7, m7, rfl, hr7, _, hb7, hk7⟩
              have HB7 := Lib.hid hb7
              have HR7 := Lib.hid hr7
              have HK7 := Lib.hid hk7
              clear hr7 hb7 hk7
              have HW2 := Lib.hid ((HX2.out.keep HK6.out id).keep HK7.out id)
              have HW3 := Lib.hid ((HX3.out.keep HK6.out id).keep HK7.out id)
              go_wp2_with fail
              refine (Take_r HW2.out B6 2 m6 [com, 0] ⟨rfl, HR6.out.keep HK7.out (fun _ _ _ => id), fun z hz => HP.out z (by simp at hz; omega)⟩ (fun a ha _ e => by have := HB6.out a ha; have := HX2.out.lt; omega) r2 HR2.out).mono ?_
              rintro e w8 ⟨rfl, HV2, HK8⟩
              go_wp2_with fail
              refine (Take_r (HW3.out.keep HK8.out (fun e => by unfold Own.One at e; omega)) B7 2 m7 [com, 7] ⟨rfl, HR7.out.keep HK8.out (fun a ha _ e => by have := HB7.out a ha; have := HK6.out.size; have := HX2.out.lt; unfold Own.One at e; omega), fun z hz => HP.out z (by simp at hz; omega)⟩ (fun a ha _ e => by have := HB7.out a ha; have := HK6.out.size; have := HX3.out.lt; omega) r2 HR3.out).mono ?_
              rintro e w9 ⟨rfl, HU3, HK9⟩
              have HU2 := Lib.hid (HV2.out.keep HK9.out (fun e => by unfold Own.One at e; omega))
              generalize d.does r2 = d9 at *
              go_wp2_with fail
              refine (State_any HU2.out).mono ?_
              rintro e w' ⟨rfl, rfl⟩
              go_wp2_with fail
              refine (State_any HU3.out).mono ?_
              rintro e w' ⟨rfl, rfl⟩
              go_wp2_with fail
              refine (ID_any HU2.out).mono ?_
              rintro e w' ⟨rfl, rfl⟩
              go_wp2_with fail
              refine (ID_any HU3.out).mono ?_
              rintro e w' ⟨rfl, rfl⟩
              go_wp2_with fail
              refine (lives_hid _).mono ?_
              rintro e w10 ⟨rfl, hk10⟩
              go_wp2
              go_ret
              exact ⟨rfl, ((((HXK.out.trans HK6.out (fun i hi => hi.elim)).trans HK7.out (fun i hi => hi.elim)).trans HK8.out (fun i hi => .inr (by unfold Own.One at hi; omega))).trans HK9.out (fun i hi => .inr (by unfold Own.One at hi; omega))).trans hk10.out (fun i hi => hi.elim)⟩
            · have b7 : (node != 7) = true := by simp [h7]
              have z0 := HN7.out h7
              have br : (r != 0) = false := by simp [z0]
              have HX1' : Hid (IsNd w5 g1 d) := by have e := HX1.out; rw [z0, Nd.does_0] at e; exact e
              clear h7 z0
              go_wp2_with fail
              refine (State_any HX1'.out).mono ?_
              rintro e w' ⟨rfl, rfl⟩
              go_wp2_with fail
              refine (Command_yes com 0 _ HC0.out).mono ?_
              rintro e w6 ⟨B6, m6, rfl, hr6, _, hb6, hk6⟩
              have HB6 := Lib.hid hb6
              have HR6 := Lib.hid hr6
              have HK6 := Lib.hid hk6
              clear hr6 hb6 hk6
              go_wp2_with fail
              refine (Command_yes com 7 _ HC7.out).mono ?_
              rintro e w7 ⟨B7, m7, rfl, hr7, _, hb7, hk7⟩
              have HB7 := Lib.hid hb7
              have HR7 := Lib.hid hr7
              have HK7 := Lib.hid hk7
              clear hr7 hb7 hk7
              have HW2 := Lib.hid ((HX2.out.keep HK6.out id).keep HK7.out id)
              have HW3 := Lib.hid ((HX3.out.keep HK6.out id).keep HK7.out id)
              go_wp2_with fail
              refine (Take_r HW2.out B6 2 m6 [com, 0] ⟨rfl, HR6.out.keep HK7.out (fun _ _ _ => id), fun z hz => HP.out z (by simp at hz; omega)⟩ (fun a ha _ e => by have := HB6.out a ha; have := HX2.out.lt; omega) r2 HR2.out).mono ?_
              rintro e w8 ⟨rfl, HV2, HK8⟩
              go_wp2_with fail
              refine (Take_r (HW3.out.keep HK8.out (fun e => by unfold Own.One at e; omega)) B7 2 m7 [com, 7] ⟨rfl, HR7.out.keep HK8.out (fun a ha _ e => by have := HB7.out a ha; have := HK6.out.size; have := HX2.out.lt; unfold Own.One at e; omega), fun z hz => HP.out z (by simp at hz; omega)⟩ (fun a ha _ e => by have := HB7.out a ha; have := HK6.out.size; have := HX3.out.lt; omega) r2 HR3.out).mono ?_
              rintro e w9 ⟨rfl, HU3, HK9⟩
              have HU2 := Lib.hid (HV2.out.keep HK9.out (fun e => by unfold Own.One at e; omega))
              generalize d.does r2 = d9 at *
              go_wp2_with fail
              refine (State_any HU2.out).mono ?_
              rintro e w' ⟨rfl, rfl⟩
              go_wp2_with fail
              refine (State_any HU3.out).mono ?_
              rintro e w' ⟨rfl, rfl⟩
              go_wp2_with fail
              refine (ID_any HU2.out).mono ?_
              rintro e w' ⟨rfl, rfl⟩
              go_wp2_with fail
              refine (ID_any HU3.out).mono ?_
              rintro e w' ⟨rfl, rfl⟩
              go_wp2_with fail
              refine (lives_hid _).mono ?_
              rintro e w10 ⟨rfl, hk10⟩
              go_wp2
              go_ret
              exact ⟨rfl, ((((HXK.out.trans HK6.out (fun i hi => hi.elim)).trans HK7.out (fun i hi => hi.elim)).trans HK8.out (fun i hi => .inr (by unfold Own.One at hi; omega))).trans HK9.out (fun i hi => .inr (by unfold Own.One at hi; omega))).trans hk10.out (fun i hi => hi.elim)⟩
          · have b1 : (d.id != 7) = true := by simp [i7]
            clear i7
            go_wp2_with (first | ((with_reducible refine (ID_any HY1.out).mono ?_); rintro e w' ⟨rfl, rfl⟩) | ((with_reducible refine (lives_hid _).mono ?_); rintro e w' ⟨rfl, hk⟩))
            go_ret
            rename_i hk
            exact HFin.out _ _ ⟨rfl, HK4.out.trans hk.out (fun i hi => hi.elim)⟩
      · have HCan := Lib.hid hcan
        clear hcan
        go_wp2_with fail
        refine (Command_no com node _ HCan.out).mono ?_
        rintro e w4 ⟨B, m, rfl, hk4⟩
        have HK4 := Lib.hid hk4
        clear hk4
        go_wp2_with ((with_reducible refine (lives_hid _).mono ?_); rintro e w' ⟨rfl, hk⟩)
        go_ret
        rename_i hk
        exact HFin.out _ _ ⟨rfl, HK4.out.trans hk.out (fun i hi => hi.elim)⟩
theorem others_walk' (A : Option Addr) (c : Nat) (xs : List (Int × Int × List Int × Unit)) (w : World) (h : RowOf (Both (IntIs .i64) (Both (IntIs .i64) (Both (SliceIs (IntIs .u8) 1 1) NoCells))) 3 w A xs) (hb : xs.length * 40 ≤ reachBytes) (com node : Int) :
    Calls Try.prog 5 #[.slice A xs.length c, .int .i64 com, .int .i64 node] w fun e w' => e = .returned (.bool true) ∧ Keep Zero w w' := by
  have hl : (xs.map fun x => (⟨x.1, x.2.1, x.2.2.1⟩ : NAct)).length = xs.length := List.length_map _
  have hwk := others_walk A c _ w (actsAt_of h) (by rw [hl]; unfold reachBytes at hb; omega) com node
  rw [hl] at hwk
  exact hwk
end Go.Proofs.Ytghnegidhfmphaa.Nmt
