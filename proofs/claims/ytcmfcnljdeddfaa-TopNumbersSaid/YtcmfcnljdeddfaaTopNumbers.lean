/- TopNumbers: nodes that are found, and given numbers, begin with these, each with its own, and take the commands with it alone. -/
import Derived.Test.YtcmfcnljdeddfaaNumM
import Derived.Laws.Tables
import Derived.Deep.CutBlock
import Derived.Deep.DeepCutAuto
namespace Go.Proofs.Ytcmfcnljdeddfaa.Num
open Go.RowKit Go.Proofs.Ytcmfcnljdeddfaa.Own Go.Proofs.Ytcmfcnljdeddfaa.Crc
theorem Step_u {w : World} {gn : Nat} {u : Int} (hu : u ≠ 0) (h : Nmt.IsNd w gn ⟨u, u, 0, 0, 0⟩) : Calls Try.prog 8 #[.pointer (some ⟨gn, 0, none⟩)] w fun e w' => ∃ A c, e = .returned (.tuple #[.slice A 1 c, .bool true]) ∧ Hid (Nmt.IsNd w' gn ⟨u, u, 127, 0, 0⟩ ∧ Keep (One gn) w w') := by
  have hst : (⟨u, u, 0, 0, 0⟩ : Nmt.Nd).step = ⟨u, u, 127, 0, 0⟩ := by
    unfold Nmt.Nd.step
    rw [if_pos ⟨rfl, hu⟩]
  have hsp : (⟨u, u, 0, 0, 0⟩ : Nmt.Nd).steps = true := by
    unfold Nmt.Nd.steps
    simp [hu]
  refine (Nmt.Step_any h).mono ?_
  rintro e w' ⟨A, c, rfl, _, hnd, hk, _⟩
  rw [hst] at hnd
  rw [hsp]
  exact ⟨A, c, rfl, Lib.hid ⟨hnd, hk⟩⟩
theorem Take_u {w : World} {gn m8 : Nat} {u cmd tgt : Int} {A : Option Addr} (hu : u ≠ 0) (h : Nmt.IsNd w gn ⟨u, u, 127, 0, 0⟩) (hc : Nmt.Can cmd tgt) (hr : Row w A (ints .u8 [cmd, tgt])) (ha : ∀ a, A = some a → a.block ≠ gn) :
    Calls Try.prog 11 #[.pointer (some ⟨gn, 0, none⟩), .slice A 2 m8] w fun e w' => ∃ v : Int, e = .returned (.int .i64 v) ∧ Hid (((v ≠ 0 ∧ (tgt = 0 ∨ u = tgt)) ∨ v = 0) ∧ Keep (One gn) w w') := by
  obtain ⟨hcm, ht0, ht1⟩ := hc
  refine (Nmt.Take_any h A 2 m8 [cmd, tgt] ⟨rfl, hr, fun x hx => ?_⟩ (fun a ha2 _ => ha a ha2)).mono ?_
  · simp only [List.mem_cons, List.not_mem_nil, or_false] at hx
    omega
  rintro e w' ⟨rfl, _, hk⟩
  refine ⟨_, rfl, Lib.hid ⟨?_, hk⟩⟩
  unfold Nmt.Nd.cmd
  simp only
  by_cases hx : tgt = 0 ∨ tgt = u
  · rw [if_pos ⟨⟨by decide, hu, hx⟩, hcm⟩]
    exact .inl ⟨by omega, hx.imp_right Eq.symm⟩
  · rw [if_neg (fun q => hx q.1.2.2)]
    exact .inr rfl
/-- Two nodes of one address. -/
def SameA (A : Nat → Nat → Int) (i k : Nat) : Prop := A i 0 = A k 0 ∧ A i 1 = A k 1 ∧ A i 2 = A k 2 ∧ A i 3 = A k 3
set_option maxRecDepth 100000 in
set_option maxHeartbeats 8000000 in
theorem numbers_walk (w : World) (B C : Option Addr) (cb cc L : Nat) (A : Nat → Nat → Int) (Z : Nat → Int) (hr : Row w B (flatN A Z L)) (hnil : B = none → cb = 0) (hw : ∀ i k, 0 ≤ A i k ∧ A i k < 4294967296) (hl : L * 24 ≤ 140737488355328)
    (ids : List Int) (hi : Row w C (ints .i64 ids)) (hin : C = none → cc = 0) (hil : ids.length * 8 ≤ 140737488355328) (cmd tgt : Int) :
    Calls Try.prog 4 #[.slice B L cb, .slice C ids.length cc, .agg #[.int .i64 cmd, .int .i64 tgt]] w fun e w' => e = .returned (.bool true) ∧ Keep Own.Zero w w' := by
  have HR := Lib.hid hr
  have HNil := Lib.hid hnil
  have HWf := Lib.hid hw
  have HI := Lib.hid hi
  have HIn := Lib.hid hin
  obtain ⟨M, hM⟩ : ∃ M, M = ids.length := ⟨_, rfl⟩
  have HM := Lib.hid hM
  rw [← hM] at hil ⊢
  clear hr hnil hw hi hin hM
  go_enter Try.func4, Try.ntmps4
  go_wp2_with fail
  refine (finds_any _).mono ?_
  rintro e w1 ⟨rfl, hk⟩
  have HK1 : Hid (Keep Own.Zero w w1) := Lib.hid (Keep.trans (S := Own.Zero) ((Keep.refl _ _).alloc _) hk.out (fun _ hi => hi.elim))
  have HB1 : Hid (Blk w1 w.heap.size #[.int .i64 cmd, .int .i64 tgt] 54) := Lib.hid (Blk.keep (Blk.new _ _ _) hk.out id)
  clear hk
  have o0 : w1.cell? ⟨w.heap.size, 0, none⟩ = some (.int .i64 cmd) := HB1.out.cell 0
  have o1 : w1.cell? ⟨w.heap.size, 1, none⟩ = some (.int .i64 tgt) := HB1.out.cell 1
  have ol := HB1.out.lt
  go_upto_region 3 with fail
  go_cut [7, 8, 9] (fun s7 s8 s9 wx => ∃ P c, s7 = .slice P L c ∧ s8 = .int .i64 cmd ∧ s9 = .int .i64 tgt ∧ Hid (FreeAt wx w1.heap.size P L A 0 ∧ Keep Own.Zero w wx))
  case first =>
    go_region_law (refine step_app_own rfl (.tmp 27) (.tmp 28) 52 rfl w1.heap.size 59 (.agg #[.int .u32 0, .int .u32 0, .int .u32 0, .int .u32 0, .int .i64 0]) 5 24 under52 info59 rfl (by decide) (.slice (some ⟨w1.heap.size, 0, none⟩) 0 0) 0 [] rfl (own_empty 5 (by repeat (first | exact Blk.at_ (by simp) | (with_reducible first | apply Blk.alloc | apply Blk.drew)))) B L cb (flatN A Z L) rfl (flatN_len _ _ _) HNil.out (HR.out.keep (S := Own.Zero) (by repeat (first | exact HK1.out | (with_reducible first | apply Keep.alloc | apply Keep.drew))) (fun _ _ _ => id)) (flatN_one _ _ _) (by unfold maxLen; omega) (by omega) (by simp) ?_; intro v3 w3 hown3 hgr3; obtain ⟨P3, c3, rfl, hf3⟩ := free_own hown3; have hk3 : Keep Own.Zero w1 w3 := Keep.grown (by repeat (first | exact Keep.refl Own.Zero w1 | (with_reducible first | apply Keep.alloc | apply Keep.drew))) hgr3 (fun k hk => .inr (by cases hk; exact Nat.le_refl _)); have HF3 := Lib.hid (And.intro hf3 hk3); have y0 : w3.cell? ⟨w.heap.size, 0, none⟩ = some (.int .i64 cmd) := (HB1.out.keep hk3 id).cell 0; have y1 : w3.cell? ⟨w.heap.size, 1, none⟩ = some (.int .i64 tgt) := (HB1.out.keep hk3 id).cell 1; have yl := (HB1.out.keep hk3 id).lt; clear hown3 hgr3 hf3 hk3)
    all_goals
      have HKE := Lib.hid (HK1.out.trans HF3.out.2 (fun i hi => hi.elim))
      go_wp2_with fail
      go_meet
      exact ⟨P3, c3, rfl, rfl, rfl, HF3.out.1, HKE.out⟩
  case rest =>
    obtain ⟨P, c, rfl, rfl, rfl, hcut⟩ := hcut
    obtain ⟨w2, hw2⟩ : ∃ w2, w2 = wc := ⟨_, rfl⟩
    subst hw2
    obtain ⟨base, hbase⟩ : ∃ base, base = w1.heap.size := ⟨_, rfl⟩
    have hb0 : w.heap.size ≤ base := by rw [hbase]; exact HK1.out.size
    have HBs := Lib.hid hb0
    rw [← hbase] at hcut
    have HC := Lib.hid hcut
    clear hcut o0 o1 ol HB1 HK1 hbase hb0
    go_wp2_with fail
    go_loopg [10] L (fun k s10 wr => ∃ j : Nat, j ≤ L ∧ k = L - j ∧ s10 = .int .i64 j ∧ Hid (FreeAt wr base P L A j ∧ Keep Own.Zero w wr))
    case atStart => exact ⟨0, by omega, rfl, rfl, HC.out⟩
    case round =>
      obtain ⟨w3, hw3⟩ : ∃ w3, w3 = wr := ⟨_, rfl⟩
      subst hw3
      obtain ⟨j, hj, hk, rfl, HT⟩ := hrel
      have HMs := Lib.hid hk
      clear hk
      by_cases hlt : j < L
      · have h1 : (j : Int) < (L : Int) := by omega
        have h0 : (0 : Int) ≤ (j : Int) := by omega
        obtain ⟨q, cs, rfl, hB, hq, hA4, hZ⟩ := HT.out.1 (by omega)
        obtain ⟨z, hz, _⟩ := hZ j hlt
        have gz : w3.cell? ⟨q, j * 5 + 4, none⟩ = some (.int .i64 z) := by rw [hB.cell]; exact hz
        have fz : w3.frozen? ⟨q, j * 5 + 4, none⟩ = false := hB.frozen _
        have ql := hB.lt
        have HPut : Hid (FreeAt (w3.setCell ⟨q, j * 5 + 4, none⟩ (.int .i64 0)) base (some ⟨q, 0, none⟩) L A (j + 1) ∧ Keep Own.Zero w (w3.setCell ⟨q, j * 5 + 4, none⟩ (.int .i64 0))) := Lib.hid ⟨HT.out.1.put hlt, HT.out.2.set (.inr (by have := HBs.out; simp only; omega)) _⟩
        clear hB hq hA4 hZ hz
        go_wp2_with fail
        go_roundg (L - (j + 1))
        case measure => rw [HMs.out]; omega
        case rel => exact ⟨j + 1, hlt, rfl, by go_num, HPut.out⟩
      · have hjL : j = L := by omega
        subst hjL
        have HNd : Hid (NodesAt w3 P j A) := Lib.hid (HT.out.1.nodes HWf.out)
        obtain ⟨n, hn⟩ : ∃ n, n = min j 8 := ⟨_, rfl⟩
        have hn8 : n ≤ 8 := by omega
        go_wp2_with fail
        refine (Slaves_any (n := n) (m := 8) HNd.out (by omega) (by decide) hn).mono ?_
        rintro e w4 ⟨P4, Q4, c4, d4, rfl, hp⟩
        obtain ⟨g, d, hs, hrow, hds, hk4, hnew⟩ := hp.out
        have HS4 := Lib.hid hs
        have HRow := Lib.hid hrow
        have HDs := Lib.hid hds
        have HK4 : Hid (Keep Own.Zero w w4) := Lib.hid (HT.out.2.trans hk4 (fun i hi => hi.elim))
        have HNew : Hid (∀ i, i < n → w.heap.size ≤ g i) := Lib.hid (fun i hi => Nat.le_trans HT.out.2.size (hnew i hi))
        clear hp hs hrow hds hk4 hnew hn hj
        go_wp2_with fail
        go_loopg [13] n (fun k s13 wr => ∃ i : Nat, i ≤ n ∧ k = n - i ∧ s13 = .int .i64 i ∧ Hid ((∀ a b, a < i → b < a → ¬ SameA A a b) ∧ Keep Own.Zero w4 wr))
        case atStart => exact ⟨0, by omega, rfl, rfl, fun a b h _ => by omega, Keep.refl _ _⟩
        case round =>
          obtain ⟨w5, hw5⟩ : ∃ w5, w5 = wr := ⟨_, rfl⟩
          subst hw5
          obtain ⟨i, hi, hk, rfl, HO⟩ := hrel
          have HMo := Lib.hid hk
          clear hk
          by_cases hlt2 : i < n
          · have h1 : (i : Int) < (n : Int) := by omega
            have h0 : (0 : Int) ≤ (i : Int) := by omega
            go_wp2_with fail
            go_loopg [14] i (fun k s14 wr => ∃ m : Nat, m ≤ i ∧ k = i - m ∧ s14 = .int .i64 m ∧ Hid ((∀ b, b < m → ¬ SameA A i b) ∧ Keep Own.Zero w4 wr))
            case atStart => exact ⟨0, by omega, rfl, rfl, fun b h => by omega, HO.out.2⟩
            case round =>
              obtain ⟨m, hm, hk, rfl, HIn2⟩ := hrel
              have HMi := Lib.hid hk
              clear hk
              by_cases hlt3 : m < i
              · have h2 : (m : Int) < (i : Int) := by omega
                have h3 : (0 : Int) ≤ (m : Int) := by omega
                have h4 : (m : Int) < (n : Int) := by omega
                obtain ⟨b, o, rfl, lb, gi⟩ := (HRow.out.keep HIn2.out.2 (fun _ _ _ => id)) i _ (pts_get d hlt2)
                obtain ⟨b', o', e, _, gm⟩ := (HRow.out.keep HIn2.out.2 (fun _ _ _ => id)) m _ (pts_get d (show m < n by omega))
                cases e
                obtain ⟨ci, hbi, hci⟩ := (HDs.out i hlt2).keep HIn2.out.2 id
                obtain ⟨cm, hbm, hcm⟩ := (HDs.out m (by omega)).keep HIn2.out.2 id
                obtain ⟨di, hdi⟩ : ∃ di, di = d i := ⟨_, rfl⟩
                obtain ⟨dm, hdm⟩ : ∃ dm, dm = d m := ⟨_, rfl⟩
                rw [← hdi] at gi hbi
                rw [← hdm] at gm hbm
                have i0 : wr.cell? ⟨di, 0, none⟩ = some (.int .u32 (A i 0)) := by rw [hbi.cell]; exact hci 0 (by decide)
                have i1 : wr.cell? ⟨di, 1, none⟩ = some (.int .u32 (A i 1)) := by rw [hbi.cell]; exact hci 1 (by decide)
                have i2 : wr.cell? ⟨di, 2, none⟩ = some (.int .u32 (A i 2)) := by rw [hbi.cell]; exact hci 2 (by decide)
                have i3 : wr.cell? ⟨di, 3, none⟩ = some (.int .u32 (A i 3)) := by rw [hbi.cell]; exact hci 3 (by decide)
                have m0 : wr.cell? ⟨dm, 0, none⟩ = some (.int .u32 (A m 0)) := by rw [hbm.cell]; exact hcm 0 (by decide)
                have m1 : wr.cell? ⟨dm, 1, none⟩ = some (.int .u32 (A m 1)) := by rw [hbm.cell]; exact hcm 1 (by decide)
                have m2 : wr.cell? ⟨dm, 2, none⟩ = some (.int .u32 (A m 2)) := by rw [hbm.cell]; exact hcm 2 (by decide)
                have m3 : wr.cell? ⟨dm, 3, none⟩ = some (.int .u32 (A m 3)) := by rw [hbm.cell]; exact hcm 3 (by decide)
                have dil := hbi.lt
                have dml := hbm.lt
                have heq := eql57 (A i 0) (A i 1) (A i 2) (A i 3) (A m 0) (A m 1) (A m 2) (A m 3)
                by_cases hsm : SameA A i m
                · rw [decide_eq_true (show A i 0 = A m 0 ∧ A i 1 = A m 1 ∧ A i 2 = A m 2 ∧ A i 3 = A m 3 from hsm)] at heq
                  clear hsm hbi hbm hci hcm hdi hdm
                  go_wp2_with fail
                  go_quiet (fail)
                  go_wp2_with fail
                  go_ret
                  exact ⟨rfl, (HK4.out.trans HIn2.out.2 (fun i hi => hi.elim)).drewN _⟩
                · rw [decide_eq_false (show ¬ (A i 0 = A m 0 ∧ A i 1 = A m 1 ∧ A i 2 = A m 2 ∧ A i 3 = A m 3) from hsm)] at heq
                  have HNs := Lib.hid hsm
                  clear hsm hbi hbm hci hcm hdi hdm
                  go_wp2_with fail
                  go_quiet (fail)
                  go_wp2_with fail
                  go_roundg (i - (m + 1))
                  case measure => rw [HMi.out]; omega
                  case rel => exact ⟨m + 1, hlt3, rfl, by go_num, fun b hb => (by
                    by_cases e : b = m
                    · rw [e]
                      exact HNs.out
                    · exact HIn2.out.1 b (by omega)), HIn2.out.2.drewN _⟩
              · have hmi : m = i := by omega
                go_wp2_with fail
                go_roundg (n - (i + 1))
                case measure => rw [HMo.out]; omega
                case rel => exact ⟨i + 1, hlt2, rfl, by go_num, fun a b ha hb => (by
                  by_cases e : a = i
                  · rw [e]
                    exact HIn2.out.1 b (by omega)
                  · exact HO.out.1 a b (by omega) hb), HIn2.out.2⟩
          · have hin : i = n := by omega
            have HAp : Hid (Apart n (fun i => freshS (A i))) := Lib.hid (fun a b ha hb h4 => by
              rcases Nat.lt_trichotomy a b with h | h | h
              · exact absurd ⟨(h4 0 (by decide)).symm, (h4 1 (by decide)).symm, (h4 2 (by decide)).symm, (h4 3 (by decide)).symm⟩ (HO.out.1 b a (by omega) h)
              · exact h
              · exact absurd ⟨h4 0 (by decide), h4 1 (by decide), h4 2 (by decide), h4 3 (by decide)⟩ (HO.out.1 a b (by omega) h))
            have HK5 : Hid (Keep Own.Zero w w5) := Lib.hid (HK4.out.trans HO.out.2 (fun i hi => hi.elim))
            have HS5 := Lib.hid (HS4.out.zero HO.out.2)
            have HI5 : Hid (Row (w5.alloc (.cells #[] 3)) C (ints .i64 ids)) := Lib.hid (HI.out.keep (HK5.out.alloc _) (fun _ _ _ => id))
            go_wp2_with (at_builtin; refine app_copy rfl (.tmp 77) (.tmp 78) 42 rfl 3 (.int .i64 0) 1 8 under42 info3 rfl (by decide) w5.heap.size rfl (Blk.at_ (by simp)) C M cc (ints .i64 ids) rfl (by rw [ints_length, HM.out]; omega) HIn.out HI5.out (ints_one _ _) (by unfold maxLen; omega) (by omega) ?_; intro A6 c6 w6 h61 h62 hrow6 hk6 hb6; have HR6 := Lib.hid hrow6; have HK6 := Lib.hid hk6; have HB6 := Lib.hid hb6; clear hrow6 hk6 hb6)
            have HK6w : Hid (Keep Own.Zero w w6) := Lib.hid ((HK5.out.alloc _).trans HK6.out (fun i hi => .inr (by cases hi; exact HK5.out.size)))
            have HS6 : Hid (Slvs w6 P4 n g (fun i => freshS (A i))) := Lib.hid ((HS5.out.zero ((Keep.refl _ _).alloc _)).other HK6.out (fun i hi e => by
              have := HS5.out.lt ⟨i, hi, rfl⟩
              omega) (fun a ha h0 e => by
              obtain ⟨b, o, e2, hb, _⟩ := HS5.out.row 0 h0
              rw [ha] at e2
              cases e2
              simp only at e
              omega))
            have hall := All_any (cap := c4) HS6.out hn8 HAp.out (fresh_given n A) A6 c6 ids HR6.out (by rw [← HM.out]; omega) (fun a ha _ hof => by
              have h1 := HB6.out a ha
              have h2 := HS5.out.lt hof
              omega)
            rw [← HM.out] at hall
            refine hall.mono ?_
            clear hall
            rintro e w7 ⟨P7, k7, c7, r, rfl, hq⟩
            have hkM : (k7 : Int) ≤ (M : Int) := by have := hq.out.1; rw [HM.out]; omega
            have HK7 : Hid (Keep Own.Zero w w7) := Lib.hid (HK6w.out.trans hq.out.2.1 (fun i hi => by
              obtain ⟨q, hq2, rfl⟩ := hi
              exact .inr (HNew.out q hq2)))
            by_cases hr0 : r = 0
            · subst hr0
              have hgv : ∃ σ, Good ids ∧ Slvs w7 P4 n g σ ∧ Given n σ ids ids.length ∧ ∀ i, i < n → (σ i).free = false := by
                obtain ⟨_, _, ⟨h, _⟩ | ⟨hg, σ, hs, hgi, _, ⟨_, hno⟩ | ⟨h, _⟩⟩⟩ := hq.out
                · cases h
                · exact ⟨σ, hg, hs, hgi, hno⟩
                · cases h
              obtain ⟨σ, hg, hs7, hgi, hno⟩ := hgv
              have HS7 := Lib.hid hs7
              have HU : Hid (∀ i, i < n → 1 ≤ (σ i).uid ∧ (σ i).uid ≤ 127) := Lib.hid (fun i hi => by
                rcases hgi.num i hi with h | ⟨_, _, hm⟩
                · rw [hno i hi] at h
                  cases h
                · exact hg.2 _ (List.mem_of_mem_take hm))
              have HD : Hid (∀ i k, i < n → k < n → (σ i).uid = (σ k).uid → i = k) := Lib.hid (fun i k hi hk e => hgi.dist i k hi hk (by have := HU.out i hi; omega) e)
              clear hq hg hs7 hgi hno hkM
              go_wp2_with fail
              refine (Nmt.Command_any cmd tgt _).mono ?_
              rintro e w8 ⟨A8, m8, rfl, hrow8, hm8, ha8, hk8⟩
              have HS8 := Lib.hid (HS7.out.zero hk8)
              have HK8 : Hid (Keep Own.Zero w w8) := Lib.hid (HK7.out.trans hk8 (fun i hi => hi.elim))
              have HR8 := Lib.hid hrow8
              have HL8 : Hid (∀ i, i < n → g i < w8.heap.size) := Lib.hid (fun i hi => HS8.out.lt ⟨i, hi, rfl⟩)
              have HA8 : Hid (∀ a, P4 = some a → 0 < n → a.block < w8.heap.size) := Lib.hid (fun a ha h0 => by
                obtain ⟨b, o, e2, hb, _⟩ := HS8.out.row 0 h0
                rw [ha] at e2
                cases e2
                exact hb)
              have HA8r : Hid (∀ a, A8 = some a → (if Nmt.Can cmd tgt then [cmd, tgt] else []) ≠ [] → a.block < w8.heap.size) := Lib.hid (fun a ha hne => HR8.out.old ha (ints_ne hne))
              by_cases hcan : Nmt.Can cmd tgt
              · rw [if_pos hcan] at HR8 HA8r ⊢
                rw [if_pos hcan]
                have HA8r : Hid (∀ a, A8 = some a → a.block < w8.heap.size) := Lib.hid (fun a ha => HA8r.out a ha (by simp))
                have HCan := Lib.hid hcan
                clear hrow8 hm8 ha8 hk8 hcan
                go_wp2_with fail
                go_loopg [19, 20] n (fun k s19 s20 wr => ∃ m t : Nat, m ≤ n ∧ k = n - m ∧ s20 = .int .i64 m ∧ s19 = .int .i64 t ∧ Hid (t ≤ m ∧ (tgt ≠ 0 → t = 0 ∨ (t = 1 ∧ ∃ i, i < m ∧ (σ i).uid = tgt)) ∧ Keep (fun k => w8.heap.size ≤ k) w8 wr))
                case atStart => exact ⟨0, 0, by omega, rfl, rfl, rfl, Nat.le_refl _, fun _ => .inl rfl, Keep.refl _ _⟩
                case round =>
                  obtain ⟨m, t, hm, hk, rfl, rfl, HQ⟩ := hrel
                  have HMq := Lib.hid hk
                  have htm : t ≤ m := HQ.out.1
                  clear hk
                  by_cases hltq : m < n
                  · have h1 : (m : Int) < (n : Int) := by omega
                    have h0 : (0 : Int) ≤ (m : Int) := by omega
                    have hsr := HS8.out.high HQ.out.2.2 (fun i hi => hi) HL8.out HA8.out
                    obtain ⟨b, o, rfl, lb, _, gb⟩ := hsr.row m hltq
                    have HSm := Lib.hid (hsr.sl m hltq)
                    obtain ⟨u1, u2⟩ := HU.out m hltq
                    obtain ⟨gm, hgm⟩ : ∃ gm, gm = g m := ⟨_, rfl⟩
                    rw [← hgm] at gb HSm
                    obtain ⟨u, hu⟩ : ∃ u, u = (σ m).uid := ⟨_, rfl⟩
                    rw [← hu] at u1 u2
                    have HUu := Lib.hid hu
                    clear hsr hgm
                    go_wp2_with fail
                    refine (ID_any HSm.out).mono ?_
                    rintro e w9 ⟨rfl, hk9⟩
                    rw [← HUu.out]
                    have HK9 : Hid (Keep (fun k => w8.heap.size ≤ k) w8 w9) := Lib.hid (HQ.out.2.2.trans hk9 (fun i hi => hi.elim))
                    clear hk9 gb lb HSm hu
                    go_wp2_with fail
                    refine (Nmt.New_ok u (by omega) (by omega) _).mono ?_
                    rintro e w10 ⟨gn, rfl, hnd, hgn, hk10⟩
                    have hub : (u == 0) = false := by simp; omega
                    have HNd := Lib.hid hnd
                    have HK10 : Hid (Keep (fun k => w8.heap.size ≤ k) w8 w10) := Lib.hid (HK9.out.trans hk10 (fun i hi => hi.elim))
                    have HGn : Hid (w8.heap.size ≤ gn) := Lib.hid (Nat.le_trans HK9.out.size hgn)
                    clear hnd hgn hk10
                    go_wp2_with fail
                    refine (Step_u (by omega) HNd.out).mono ?_
                    rintro e w11 ⟨A11, c11, rfl, hnd⟩
                    have HNd11 := Lib.hid hnd.out.1
                    have HK11 : Hid (Keep (fun k => w8.heap.size ≤ k) w8 w11) := Lib.hid (HK10.out.trans hnd.out.2 (fun i hi => .inl (by cases hi; exact HGn.out)))
                    clear hnd
                    go_wp2_with fail
                    refine (Take_u (by omega) HNd11.out HCan.out (HR8.out.keep HK11.out (fun a ha _ h => by have := HA8r.out a ha; omega)) (fun a ha => by have := HA8r.out a ha; have := HGn.out; omega)).mono ?_
                    rintro e w12 ⟨v, rfl, hp⟩
                    have HK12 : Hid (Keep (fun k => w8.heap.size ≤ k) w8 w12) := Lib.hid (HK11.out.trans hp.out.2 (fun i hi => .inl (by cases hi; exact HGn.out)))
                    rcases hp.out.1 with ⟨hv0, hto⟩ | hv0
                    · have hvb : (v != 0) = true := by simp [hv0]
                      have HTo := Lib.hid hto
                      rcases hto with hto | hto
                      · have htb : (tgt != 0) = false := by simp [hto]
                        clear hp hv0 hto
                        go_wp2_with fail
                        go_roundg (n - (m + 1))
                        case measure => rw [HMq.out]; omega
                        case rel => exact ⟨m + 1, t + 1, hltq, rfl, by go_num, by go_num, by omega, fun h => absurd (by simpa using htb) h, HK12.out⟩
                      · have htb : (tgt != 0) = true := by simp; omega
                        have hub2 : (u != tgt) = false := by simp [hto]
                        have HT0 : Hid (t = 0) := Lib.hid (by
                          rcases HQ.out.2.1 (by omega) with h | ⟨_, i, hi, hiu⟩
                          · exact h
                          · have := HD.out i m (by omega) hltq (by rw [hiu, ← hto]; exact HUu.out)
                            omega)
                        have HU2 : Hid ((σ m).uid = tgt) := Lib.hid (HUu.out.symm.trans hto)
                        clear hp hv0 hto
                        go_wp2_with fail
                        go_roundg (n - (m + 1))
                        case measure => rw [HMq.out]; omega
                        case rel => exact ⟨m + 1, t + 1, hltq, rfl, by go_num, by go_num, by omega, fun _ => .inr ⟨by have := HT0.out; omega, m, by omega, HU2.out⟩, HK12.out⟩
                    · have hvb : (v != 0) = false := by simp [hv0]
                      clear hp hv0
                      go_wp2_with fail
                      go_roundg (n - (m + 1))
                      case measure => rw [HMq.out]; omega
                      case rel => exact ⟨m + 1, t, hltq, rfl, by go_num, rfl, by omega, fun h => (HQ.out.2.1 h).imp_right (fun q => ⟨q.1, q.2.imp (fun i hi => ⟨by omega, hi.2⟩)⟩), HK12.out⟩
                  · have hmn : m = n := by omega
                    by_cases ht0 : tgt = 0
                    · have htb : (tgt == 0) = true := by simp [ht0]
                      clear ht0
                      go_wp2_with fail
                      go_ret
                      exact ⟨rfl, HK8.out.trans HQ.out.2.2 (fun i hi => .inr (Nat.le_trans HK8.out.size hi))⟩
                    · have htb : (tgt == 0) = false := by simp [ht0]
                      have ht1 : (t : Int) ≤ 1 := by
                        rcases HQ.out.2.1 ht0 with h | ⟨h, _⟩ <;> omega
                      clear ht0
                      go_wp2_with fail
                      go_ret
                      exact ⟨rfl, HK8.out.trans HQ.out.2.2 (fun i hi => .inr (Nat.le_trans HK8.out.size hi))⟩
              · clear HA8r
                rw [if_neg hcan] at HR8 ⊢
                rw [if_neg hcan]
                clear hrow8 hm8 ha8 hk8 hcan
                go_wp2_with fail
                go_loopg [19, 20] n (fun k s19 s20 wr => ∃ m t : Nat, m ≤ n ∧ k = n - m ∧ s20 = .int .i64 m ∧ s19 = .int .i64 t ∧ Hid (t ≤ m ∧ (tgt ≠ 0 → t = 0 ∨ (t = 1 ∧ ∃ i, i < m ∧ (σ i).uid = tgt)) ∧ Keep (fun k => w8.heap.size ≤ k) w8 wr))
                case atStart => exact ⟨0, 0, by omega, rfl, rfl, rfl, Nat.le_refl _, fun _ => .inl rfl, Keep.refl _ _⟩
                case round =>
                  obtain ⟨m, t, hm, hk, rfl, rfl, HQ⟩ := hrel
                  have HMq := Lib.hid hk
                  have htm : t ≤ m := HQ.out.1
                  clear hk
                  by_cases hltq : m < n
                  · have h1 : (m : Int) < (n : Int) := by omega
                    have h0 : (0 : Int) ≤ (m : Int) := by omega
                    have hsr := HS8.out.high HQ.out.2.2 (fun i hi => hi) HL8.out HA8.out
                    obtain ⟨b, o, rfl, lb, _, gb⟩ := hsr.row m hltq
                    have HSm := Lib.hid (hsr.sl m hltq)
                    obtain ⟨u1, u2⟩ := HU.out m hltq
                    obtain ⟨gm, hgm⟩ : ∃ gm, gm = g m := ⟨_, rfl⟩
                    rw [← hgm] at gb HSm
                    obtain ⟨u, hu⟩ : ∃ u, u = (σ m).uid := ⟨_, rfl⟩
                    rw [← hu] at u1 u2
                    have HUu := Lib.hid hu
                    clear hsr hgm
                    go_wp2_with fail
                    refine (ID_any HSm.out).mono ?_
                    rintro e w9 ⟨rfl, hk9⟩
                    rw [← HUu.out]
                    have HK9 : Hid (Keep (fun k => w8.heap.size ≤ k) w8 w9) := Lib.hid (HQ.out.2.2.trans hk9 (fun i hi => hi.elim))
                    clear hk9 gb lb HSm hu
                    go_wp2_with fail
                    refine (Nmt.New_ok u (by omega) (by omega) _).mono ?_
                    rintro e w10 ⟨gn, rfl, hnd, hgn, hk10⟩
                    have hub : (u == 0) = false := by simp; omega
                    have HNd := Lib.hid hnd
                    have HK10 : Hid (Keep (fun k => w8.heap.size ≤ k) w8 w10) := Lib.hid (HK9.out.trans hk10 (fun i hi => hi.elim))
                    have HGn : Hid (w8.heap.size ≤ gn) := Lib.hid (Nat.le_trans HK9.out.size hgn)
                    clear hnd hgn hk10
                    go_wp2_with fail
                    refine (Step_u (by omega) HNd.out).mono ?_
                    rintro e w11 ⟨A11, c11, rfl, hnd⟩
                    have HNd11 := Lib.hid hnd.out.1
                    have HK11 : Hid (Keep (fun k => w8.heap.size ≤ k) w8 w11) := Lib.hid (HK10.out.trans hnd.out.2 (fun i hi => .inl (by cases hi; exact HGn.out)))
                    clear hnd
                    go_wp2_with fail
                    go_roundg (n - (m + 1))
                    case measure => rw [HMq.out]; omega
                    case rel => exact ⟨m + 1, t, hltq, rfl, by go_num, rfl, by omega, fun h => (HQ.out.2.1 h).imp_right (fun q => ⟨q.1, q.2.imp (fun i hi => ⟨by omega, hi.2⟩)⟩), HK11.out⟩
                  · have hmn : m = n := by omega
                    by_cases ht0 : tgt = 0
                    · have htb : (tgt == 0) = true := by simp [ht0]
                      clear ht0
                      go_wp2_with fail
                      go_ret
                      exact ⟨rfl, HK8.out.trans HQ.out.2.2 (fun i hi => .inr (Nat.le_trans HK8.out.size hi))⟩
                    · have htb : (tgt == 0) = false := by simp [ht0]
                      have ht1 : (t : Int) ≤ 1 := by
                        rcases HQ.out.2.1 ht0 with h | ⟨h, _⟩ <;> omega
                      clear ht0
                      go_wp2_with fail
                      go_ret
                      exact ⟨rfl, HK8.out.trans HQ.out.2.2 (fun i hi => .inr (Nat.le_trans HK8.out.size hi))⟩
            · have hrb : (r != 0) = true := by simp [hr0]
              clear hq hr0
              go_wp2_with fail
              go_ret
              exact ⟨rfl, HK7.out⟩
end Go.Proofs.Ytcmfcnljdeddfaa.Num
