/- BlockSizes: the law's walk. -/
import Derived.Test.YtdmomhbimhggiaaBlockJ
import Derived.Test.YtdmomhbimhggiaaBlockK
namespace Go.Proofs.Ytdmomhbimhggiaa.Block
open Go.RowKit Go.Proofs.Ytdmomhbimhggiaa.Own Go.Proofs.Ytdmomhbimhggiaa.Crc
set_option maxRecDepth 100000 in
set_option maxHeartbeats 16000000 in
theorem sizes_walk (A B : Option Addr) (cA d : Nat) (xs zs : List Int) (w : World) (h : In w A cA xs) (hB : In w B d zs) :
    Calls Try.prog 6 #[.slice A xs.length cA, .slice B zs.length d] w fun e w' => e = .returned (.bool true) ∧ Keep Own.Zero w w' := by
  have HB := Lib.hid hB
  obtain ⟨K, hK⟩ : ∃ K, K = zs.length := ⟨_, rfl⟩
  have HKl := Lib.hid hK
  rw [← hK]
  clear hK
  have hlc := h.le
  obtain ⟨m, hm⟩ : ∃ m, m = xs.length := ⟨_, rfl⟩
  rw [← hm] at hlc ⊢
  by_cases hl : 3000 < m
  · have hl2 : (3000 : Int) < (m : Int) := by omega
    obtain ⟨ys, hys⟩ : ∃ ys, ys = xs.take 3000 := ⟨_, rfl⟩
    obtain ⟨n, hn⟩ : ∃ n : Nat, n = 3000 := ⟨_, rfl⟩
    have HI : Hid (In w A cA ys) := Lib.hid (by rw [hys]; exact h.take 3000)
    have HN : Hid (n = ys.length) := Lib.hid (by rw [hys, List.length_take, hn]; omega)
    have hnb : n ≤ 3000 := by omega
    have hsl := fun X => slice22_h A m cA n (by omega) hlc X
    have HHn : Hid (n = 3000) := Lib.hid hn
    have hsl' : ∀ X, Sem.run Try.prog (Instr.slice 22 (.slice A m cA) none (some (.int .i64 3000)) none) X = .ok (.slice A n cA) X := fun X => by
      have := hsl X
      rw [hn] at this ⊢
      exact this
    clear h hB hm hys hn hsl
    go_enter Try.func6, Try.ntmps6
    have HR1 : Hid (Row (w.alloc (.cells #[] 5)) A (ints .u8 ys)) := Lib.hid (HI.out.row.keep ((Keep.refl Own.Zero w).alloc (.cells #[] 5)) (fun _ _ _ => id))
    go_wp2_with (at_builtin; refine app_own rfl (.tmp 27) (.tmp 28) 22 rfl w.heap.size 5 (.int .u8 0) 1 1 under22 info5 rfl (by decide) (.slice (some ⟨w.heap.size, 0, none⟩) 0 0) 0 [] rfl (own_empty 1 (Blk.new w _ _)) A n cA (ints .u8 ys) rfl (by rw [ints_length, HN.out]; omega) HI.out.nil HR1.out (ints_one _ _) (by unfold maxLen; omega) (by omega) (by simp) ?_; intro v2 w2 hown2 hgr2)
    have HO2 : Hid (w2.ownsRow w.heap.size 5 1 v2 n (ints .u8 ys)) := Lib.hid (by have h := hown2; rw [Nat.zero_add, List.nil_append] at h; exact h)
    have HK2 : Hid (Keep Own.Zero w w2) := Lib.hid (((Keep.refl Own.Zero w).alloc _).grown hgr2 (fun k hk => .inr (by cases hk; exact Nat.le_refl _)))
    clear hown2 hgr2
    obtain ⟨A2, c2, rfl, hi2, _⟩ := own_in HO2.out HN.out HI.out.byte
    have HI2 := Lib.hid hi2
    clear hi2
    go_wp2_with fail
    refine (NewSender_ok HI2.out (by rw [← HN.out]; omega) n HN.out).mono ?_
    rintro e w1 ⟨gs, A1, c1, rfl, hp1⟩
    have HP1 := hp1
    have HA1 : Hid (∀ a, A1 = some a → a.block < w1.heap.size) := Lib.hid (fun a ha => (HP1.out.2.2.2 a ha).2)
    clear hp1
    go_wp2_with fail
    refine (NewReceiver_ok w1 127 (by decide) (by decide)).mono ?_
    rintro e w3 ⟨gr, rfl, hp2⟩
    have HP2 := hp2
    clear hp2
    go_wp2_with fail
    refine (Begin_ok (HP1.out.1.keep HP2.out.2.1 id (fun _ _ => id)) rfl rfl 127 (by decide) (by decide) _ rfl).mono ?_
    rintro e w5 ⟨A5, c5, rfl, hp3⟩
    have HD5 : Hid (DataSt w w5 gs gr w1.heap.size A1 c1 ys 127 0 (min 127 (segs ys)) A5 c5) := Lib.hid (by
      have hS2 : Sess w w3 gs gr w1.heap.size ⟨A1, c1, ys, 0, 0, false, false, false, 0⟩ (rAt 127 0 0 ys (fun _ => 0) (.slice none 0 0)) :=
        ⟨HP1.out.1.keep HP2.out.2.1 id (fun _ _ => id), HP2.out.1, HP1.out.1.blk.lt, HA1.out, HP2.out.2.2, (HK2.out.trans HP1.out.2.1 (fun _ h => h.elim)).trans HP2.out.2.1 (fun _ h => h.elim), Nat.le_trans HK2.out.size HP1.out.2.2.1⟩
      exact ⟨_, _, hS2.sstep hp3.out.1 rfl hp3.out.2.2, own_mono hp3.out.2.1 hS2.keep.size, (segs_bound ys).2.2⟩)
    clear HP1 HP2 hp3 HA1 HO2 HI2
    obtain ⟨m0, hm0⟩ : ∃ m0, m0 = min 127 (segs ys) := ⟨_, rfl⟩
    rw [show (⟨A1, c1, ys, 0, 0, false, false, false, 0⟩ : Snd).bs = ys from rfl, ← hm0]
    rw [← hm0] at HD5
    have HM0 := Lib.hid hm0
    clear hm0
    go_wp2_with fail
    go_loopg [9, 11] 1000 (fun q s9 s11 wr => ∃ bl Af c m p kp, q = 1000 - bl ∧ bl ≤ segs ys ∧ s11 = .int .i64 (bl : Nat) ∧ s9 = .slice Af m c ∧ 1 ≤ kp ∧ kp ≤ 127 ∧
      ((DataSt w wr gs gr w1.heap.size A1 c1 ys 127 p m Af c ∧ bl ≤ p ∧ m = min kp (segs ys - p)) ∨ EndSt w wr gs gr w1.heap.size A1 c1 ys 127 m Af c))
    case atStart => exact ⟨0, A5, c5, m0, 0, 127, rfl, Nat.zero_le _, rfl, rfl, by decide, by decide, .inl ⟨HD5.out, Nat.le_refl _, HM0.out⟩⟩
    case round =>
      obtain ⟨bl, Af, c, m, p, kp, hq, hb2, rfl, rfl, kp0, kp1, hst⟩ := hrel
      have HQ := Lib.hid hq
      have sb := segs_bound ys
      rw [← HN.out] at sb
      obtain ⟨N, hN⟩ : ∃ N, N = segs ys := ⟨_, rfl⟩
      rw [← hN] at hb2 sb
      have hNb : N ≤ 430 := by omega
      have HNn := Lib.hid hN
      have hlt : (bl : Int) < 1000 := by omega
      clear hq hN sb
      obtain ⟨wo, hwo⟩ : ∃ x, x = wr := ⟨_, rfl⟩
      subst hwo
      by_cases hK0 : K = 0
      · have hK9 : ¬ 0 < K := by omega
        have HK0 := Lib.hid hK0
        clear hK0
        go_wp2_with fail
        rcases hst with ⟨hst, hbp, hm⟩ | hst
        · obtain ⟨la0, V0, hs0, hf0, hpN⟩ := hst
          rw [← HNn.out] at hpN hm
          have hm1 : 1 ≤ m := by omega
          have hmk : m ≤ 127 := by omega
          have hmN : p + m ≤ N := by omega
          obtain ⟨bq, oq, rfl, hbq, _⟩ := fr_at hf0.row (framesF_get (bs := ys) (p := p) (show 0 < m by omega))
          have HS0 := Lib.hid hs0
          have HF0 := Lib.hid hf0
          have HMm := Lib.hid hm
          have HBase : Hid (w1.heap.size ≤ wo.heap.size) := Lib.hid hs0.rcv.bs
          clear hs0 hf0 hm
          go_loopg [14, 15] m (fun q s14 s15 wi => ∃ i is, i ≤ m ∧ q = m - i ∧ s15 = .int .i64 (i : Nat) ∧ s14 = .bool is ∧ FrAt wi w.heap.size (some ⟨bq, oq, none⟩) m c (framesF ys p m) ∧ Within w wi gs gr w1.heap.size A1 c1 ys 127 p m i wo.heap.size is)
          case atStart => exact ⟨0, false, Nat.zero_le _, rfl, rfl, rfl, HF0.out.new ((Keep.refl Own.Zero wo).alloc _), .inl ⟨0, la0, V0, fun _ => 0, rfl, Nat.le_refl _, (fun h => by omega), by rw [← HNn.out]; exact hpN, HS0.out.new ((Keep.refl Own.Zero wo).alloc _), Blk.new wo _ _⟩⟩
          case round =>
            obtain ⟨i, is, him, hqi, rfl, rfl, hfr, hwi⟩ := hrel
            have HQi := Lib.hid hqi
            have HFr := Lib.hid hfr
            clear hqi hfr
            by_cases hilt : i < m ∧ i < 127
            · obtain ⟨hilt, hisz⟩ := hilt
              have hi1 : (i : Int) < (m : Int) := by omega
              have hi2 : (i : Int) < 127 := by omega
              have hi0 : (0 : Int) ≤ (i : Int) := by omega
              rcases hwi with ⟨c', la, V, G, rfl, hci, hc0, hcN, hs, hba⟩ | ⟨V, rfl, h2, _⟩
              · have HS := Lib.hid hs
                have HBa := Lib.hid hba
                rw [← HNn.out] at hcN
                obtain ⟨F, hF⟩ : ∃ F, F = segF ys (p + i) i := ⟨_, rfl⟩
                have HFf := Lib.hid hF
                obtain ⟨b', o', hb', _, hz⟩ := fr_at HFr.out.row (framesF_get (bs := ys) (p := p) hilt)
                cases hb'
                rw [← hF] at hz
                have x0 := hz 0 (by omega)
                have x1 := hz 1 (by omega)
                have x2 := hz 2 (by omega)
                have x3 := hz 3 (by omega)
                have x4 := hz 4 (by omega)
                have x5 := hz 5 (by omega)
                have x6 := hz 6 (by omega)
                have x7 := hz 7 (by omega)
                simp only [← Nat.add_assoc, Nat.add_zero] at x0 x1 x2 x3 x4 x5 x6 x7
                clear hs hba hF hz
                go_wp2_with fail
                by_cases hci2 : c' = i
                · have hci3 := hci2.symm
                  subst hci3
                  rw [HNn.out] at hcN
                  have hcall := feed_next HS.out.rcv HI.out.byte (by rw [← HN.out]; omega) (by omega) hcN
                  rw [← HFf.out] at hcall
                  refine hcall.mono ?_
                  rintro e w6 (⟨hc9, rfl, V6, hp⟩ | ⟨hc9, rfl, V6, hp⟩)
                  · have hl6 := HS.out.laid HBa.out HBase.out hp.out.1 hp.out.2
                    have him1 : i + 1 = m := by have := HMm.out; have := HNn.out; omega
                    rw [him1] at hl6
                    have HS6 := Lib.hid hl6.1
                    have HB6 := Lib.hid hl6.2
                    have HKr := Lib.hid hp.out.2
                    have HHc := Lib.hid hc9
                    clear hcall hp hl6 hc9
                    rw [aggF_ans]
                    have z0 := (HB6.out).cell 0
                    have z1 := (HB6.out).cell 1
                    have z2 := (HB6.out).cell 2
                    have z3 := (HB6.out).cell 3
                    have z4 := (HB6.out).cell 4
                    have z5 := (HB6.out).cell 5
                    have z6 := (HB6.out).cell 6
                    have z7 := (HB6.out).cell 7
                    have zf0 := (HB6.out).frozen 0
                    have zf1 := (HB6.out).frozen 1
                    have zf2 := (HB6.out).frozen 2
                    have zf3 := (HB6.out).frozen 3
                    have zf4 := (HB6.out).frozen 4
                    have zf5 := (HB6.out).frozen 5
                    have zf6 := (HB6.out).frozen 6
                    have zf7 := (HB6.out).frozen 7
                    simp only [frameC, List.getElem?_toArray, List.getElem?_cons_zero, List.getElem?_cons_succ] at z0 z1 z2 z3 z4 z5 z6 z7
                    clear x0 x1 x2 x3 x4 x5 x6 x7
                    go_wp2_with fail
                    have HK7 : Hid (Keep (Own.One wo.heap.size) w6 _) := Lib.hid (keep8 (Keep.refl (Own.One wo.heap.size) w6) (.inl rfl) (.int .u8 162) (.int .u8 m) (.int .u8 127) (.int .u8 0) (.int .u8 0) (.int .u8 0) (.int .u8 0) (.int .u8 0))
                    have hfr7 := (HFr.out.rstep HS.out.rcv HKr.out).far (fun a ha => by cases ha; exact Nat.ne_of_lt hbq) HK7.out
                    have hs7 := HS6.out.far HB6.out HBase.out HK7.out
                    have hb7 := blk8 HB6.out (.int .u8 162) (.int .u8 m) (.int .u8 127) (.int .u8 0) (.int .u8 0) (.int .u8 0) (.int .u8 0) (.int .u8 0)
                    go_roundg (m - (i + 1))
                    case measure => rw [HQi.out]; omega
                    case rel => exact ⟨i + 1, true, hilt, rfl, by go_num, rfl, hfr7, .inr ⟨V6, rfl, him1, by rw [← HNn.out]; omega, hs7, hb7⟩⟩
                  · have hl6 := HS.out.laid HBa.out HBase.out hp.out.1 hp.out.2
                    have HS6 := Lib.hid hl6.1
                    have HB6 := Lib.hid hl6.2
                    have HKr := Lib.hid hp.out.2
                    have hlt6 : p + (i + 1) < segs ys := by omega
                    clear hcall hp hl6 hc9
                    rw [aggF_0]
                    have z0 := (HB6.out).cell 0
                    have z1 := (HB6.out).cell 1
                    have z2 := (HB6.out).cell 2
                    have z3 := (HB6.out).cell 3
                    have z4 := (HB6.out).cell 4
                    have z5 := (HB6.out).cell 5
                    have z6 := (HB6.out).cell 6
                    have z7 := (HB6.out).cell 7
                    have zf0 := (HB6.out).frozen 0
                    have zf1 := (HB6.out).frozen 1
                    have zf2 := (HB6.out).frozen 2
                    have zf3 := (HB6.out).frozen 3
                    have zf4 := (HB6.out).frozen 4
                    have zf5 := (HB6.out).frozen 5
                    have zf6 := (HB6.out).frozen 6
                    have zf7 := (HB6.out).frozen 7
                    simp only [frameC, List.getElem?_toArray, List.getElem?_cons_zero, List.getElem?_cons_succ] at z0 z1 z2 z3 z4 z5 z6 z7
                    clear x0 x1 x2 x3 x4 x5 x6 x7
                    go_wp2_with fail
                    have HK7 : Hid (Keep (Own.One wo.heap.size) w6 _) := Lib.hid (keep8 (Keep.refl (Own.One wo.heap.size) w6) (.inl rfl) (.int .u8 0) (.int .u8 0) (.int .u8 0) (.int .u8 0) (.int .u8 0) (.int .u8 0) (.int .u8 0) (.int .u8 0))
                    have hfr7 := (HFr.out.rstep HS.out.rcv HKr.out).far (fun a ha => by cases ha; exact Nat.ne_of_lt hbq) HK7.out
                    have hs7 := HS6.out.far HB6.out HBase.out HK7.out
                    have hb7 := blk8 HB6.out (.int .u8 0) (.int .u8 0) (.int .u8 0) (.int .u8 0) (.int .u8 0) (.int .u8 0) (.int .u8 0) (.int .u8 0)
                    go_roundg (m - (i + 1))
                    case measure => rw [HQi.out]; omega
                    case rel => exact ⟨i + 1, false, hilt, rfl, by go_num, rfl, hfr7, .inl ⟨i + 1, la, V6, fun _ => 0, rfl, Nat.le_refl _, (fun _ => by omega), hlt6, hs7, hb7⟩⟩
                · have hcall := feed_skip (i := i) HS.out.rcv (by omega) hci2
                  rw [← HFf.out] at hcall
                  refine hcall.mono ?_
                  rintro e w6 ⟨rfl, V6, hp⟩
                  have hl6 := HS.out.laid HBa.out HBase.out hp.out.1 hp.out.2
                  have HS6 := Lib.hid hl6.1
                  have HB6 := Lib.hid hl6.2
                  have HKr := Lib.hid hp.out.2
                  clear hcall hp hl6
                  rw [aggF_0]
                  have z0 := (HB6.out).cell 0
                  have z1 := (HB6.out).cell 1
                  have z2 := (HB6.out).cell 2
                  have z3 := (HB6.out).cell 3
                  have z4 := (HB6.out).cell 4
                  have z5 := (HB6.out).cell 5
                  have z6 := (HB6.out).cell 6
                  have z7 := (HB6.out).cell 7
                  have zf0 := (HB6.out).frozen 0
                  have zf1 := (HB6.out).frozen 1
                  have zf2 := (HB6.out).frozen 2
                  have zf3 := (HB6.out).frozen 3
                  have zf4 := (HB6.out).frozen 4
                  have zf5 := (HB6.out).frozen 5
                  have zf6 := (HB6.out).frozen 6
                  have zf7 := (HB6.out).frozen 7
                  simp only [frameC, List.getElem?_toArray, List.getElem?_cons_zero, List.getElem?_cons_succ] at z0 z1 z2 z3 z4 z5 z6 z7
                  clear x0 x1 x2 x3 x4 x5 x6 x7
                  go_wp2_with fail
                  have HK7 : Hid (Keep (Own.One wo.heap.size) w6 _) := Lib.hid (keep8 (Keep.refl (Own.One wo.heap.size) w6) (.inl rfl) (.int .u8 0) (.int .u8 0) (.int .u8 0) (.int .u8 0) (.int .u8 0) (.int .u8 0) (.int .u8 0) (.int .u8 0))
                  have hfr7 := (HFr.out.rstep HS.out.rcv HKr.out).far (fun a ha => by cases ha; exact Nat.ne_of_lt hbq) HK7.out
                  have hs7 := HS6.out.far HB6.out HBase.out HK7.out
                  have hb7 := blk8 HB6.out (.int .u8 0) (.int .u8 0) (.int .u8 0) (.int .u8 0) (.int .u8 0) (.int .u8 0) (.int .u8 0) (.int .u8 0)
                  go_roundg (m - (i + 1))
                  case measure => rw [HQi.out]; omega
                  case rel => exact ⟨i + 1, false, hilt, rfl, by go_num, rfl, hfr7, .inl ⟨c', la, V6, fun _ => 0, rfl, by omega, (fun _ => by omega), by rw [← HNn.out]; exact hcN, hs7, hb7⟩⟩
              · omega
            · rcases hwi with ⟨c', la, V, G, rfl, hci, hc0, hcN, hs, hba⟩ | ⟨V, rfl, him2, h2, hs, hba⟩
              · have HS := Lib.hid hs
                have HBa := Lib.hid hba
                have HC0 := Lib.hid (show 0 < c' from hc0 (by omega))
                have HCN := Lib.hid hcN
                have HCi : Hid (c' ≤ m) := Lib.hid (by omega)
                have HC127 : Hid (c' ≤ 127) := Lib.hid (by omega)
                clear hs hba hc0 hcN hci
                by_cases hie : i < m
                · have hn1 : (i : Int) < (m : Int) := by omega
                  have hn2 : ¬ (i : Int) < 127 := by omega
                  clear hilt
                  first
                    | (exfalso; omega)
                    | (go_wp2_with fail
                       refine (Ask_0 HS.out.rcv rfl).mono ?_
                       rintro e w6 ⟨rfl, hp⟩
                       have hl6 := HS.out.laid HBa.out HBase.out hp.out.1 (hp.out.2.mono (fun k hk => .inl hk))
                       have HS6 : Hid (Sess w w6 gs gr w1.heap.size (sndAt A1 c1 ys p m false) (rAt 127 (p + c') 0 ys (ansF c' 127) V)) := Lib.hid hl6.1
                       have HB6 := Lib.hid hl6.2
                       clear hp hl6
                       rw [aggF_ans]
                       go_wp2_with (refine wpList_store_row rfl 30 (.tmp 13) (.tmp 99) rfl wo.heap.size #[.int .u8 162, .int .u8 c', .int .u8 127, .int .u8 0, .int .u8 0, .int .u8 0, .int .u8 0, .int .u8 0] rfl rfl 30 (frameC G) HB6.out size30' rfl (by simp [Value.oneCell']) ?_; obtain ⟨W7, hW7⟩ : ∃ x, x = w6.setRow wo.heap.size #[.int .u8 162, .int .u8 c', .int .u8 127, .int .u8 0, .int .u8 0, .int .u8 0, .int .u8 0, .int .u8 0] := ⟨_, rfl⟩; have HB7 : Hid (Blk W7 wo.heap.size #[.int .u8 162, .int .u8 c', .int .u8 127, .int .u8 0, .int .u8 0, .int .u8 0, .int .u8 0, .int .u8 0] 30) := Lib.hid (by rw [hW7]; exact setRow_blk HB6.out _); have HK7 : Hid (Keep (Own.One wo.heap.size) w6 W7) := Lib.hid (by rw [hW7]; exact setRow_keep _ _ _); rw [← hW7]; clear hW7; have z0 : W7.cell? ⟨wo.heap.size, 0, none⟩ = some (.int .u8 162) := HB7.out.cell 0; have z1 : W7.cell? ⟨wo.heap.size, 1, none⟩ = some (.int .u8 c') := HB7.out.cell 1; have z2 : W7.cell? ⟨wo.heap.size, 2, none⟩ = some (.int .u8 127) := HB7.out.cell 2; have z3 : W7.cell? ⟨wo.heap.size, 3, none⟩ = some (.int .u8 0) := HB7.out.cell 3; have z4 : W7.cell? ⟨wo.heap.size, 4, none⟩ = some (.int .u8 0) := HB7.out.cell 4; have z5 : W7.cell? ⟨wo.heap.size, 5, none⟩ = some (.int .u8 0) := HB7.out.cell 5; have z6 : W7.cell? ⟨wo.heap.size, 6, none⟩ = some (.int .u8 0) := HB7.out.cell 6; have z7 : W7.cell? ⟨wo.heap.size, 7, none⟩ = some (.int .u8 0) := HB7.out.cell 7; have zf2 : W7.frozen? ⟨wo.heap.size, 2, none⟩ = false := HB7.out.frozen 2)
                       have HS7 := Lib.hid (HS6.out.far HB6.out HBase.out (HK7.out.set1 2 (.int .u8 127)))
                       refine (Feed_more (HS7.out).snd rfl rfl rfl c' 127 0 0 0 0 0 HCi.out HC127.out (by decide) (by decide) HCN.out _ rfl).mono ?_
                       rintro e w8 ⟨A8, c8, rfl, hp8⟩
                       have HS8 := Lib.hid ((HS7.out).sstep hp8.out.1 rfl hp8.out.2.2)
                       have HF8 := Lib.hid (own_mono hp8.out.2.1 (HS7.out).keep.size)
                       clear hp8
                       obtain ⟨m8, hm8⟩ : ∃ m8, m8 = min 127 (segs ys - (p + c')) := ⟨_, rfl⟩
                       have HM8 := Lib.hid hm8
                       have HS8b : Hid (Sess w w8 gs gr w1.heap.size (sndAt A1 c1 ys (p + c') m8 false) (rAt 127 (p + c') 0 ys (ansF c' 127) V)) := Lib.hid (by rw [hm8]; exact HS8.out)
                       have HF8b : Hid (FrAt w8 w.heap.size A8 m8 c8 (framesF ys (p + c') m8)) := Lib.hid (by rw [hm8]; exact HF8.out)
                       rw [show (sndAt A1 c1 ys p m false).at' = p from rfl, show (sndAt A1 c1 ys p m false).bs = ys from rfl, ← hm8]
                       clear HS8 HF8 hm8
                       go_wp2_with fail
                       refine (SDone_is HS8b.out.snd).mono ?_
                       rintro e w9 ⟨rfl, hk9⟩
                       have HS9 := Lib.hid (HS8b.out.new hk9.out)
                       have HF9 := Lib.hid (HF8b.out.new hk9.out)
                       clear hk9
                       go_wp2_with fail
                       go_roundg (1000 - (bl + 1))
                       case measure => rw [HQ.out]; omega
                       case rel => exact ⟨bl + 1, A8, c8, m8, p + c', 127, rfl, by have := HCN.out; have := HC0.out; omega, by go_num, rfl, (by decide), (by decide), .inl ⟨⟨ansF c' 127, V, HS9.out, HF9.out, HCN.out⟩, by have := HC0.out; omega, HM8.out⟩⟩
                      )
                · clear hilt
                  have him2 : m = i := by omega
                  subst him2
                  have hn1 : ¬ (m : Int) < (m : Int) := by omega
                  clear hie
                  go_wp2_with fail
                  refine (Ask_0 HS.out.rcv rfl).mono ?_
                  rintro e w6 ⟨rfl, hp⟩
                  have hl6 := HS.out.laid HBa.out HBase.out hp.out.1 (hp.out.2.mono (fun k hk => .inl hk))
                  have HS6 : Hid (Sess w w6 gs gr w1.heap.size (sndAt A1 c1 ys p m false) (rAt 127 (p + c') 0 ys (ansF c' 127) V)) := Lib.hid hl6.1
                  have HB6 := Lib.hid hl6.2
                  clear hp hl6
                  rw [aggF_ans]
                  go_wp2_with (refine wpList_store_row rfl 30 (.tmp 13) (.tmp 99) rfl wo.heap.size #[.int .u8 162, .int .u8 c', .int .u8 127, .int .u8 0, .int .u8 0, .int .u8 0, .int .u8 0, .int .u8 0] rfl rfl 30 (frameC G) HB6.out size30' rfl (by simp [Value.oneCell']) ?_; obtain ⟨W7, hW7⟩ : ∃ x, x = w6.setRow wo.heap.size #[.int .u8 162, .int .u8 c', .int .u8 127, .int .u8 0, .int .u8 0, .int .u8 0, .int .u8 0, .int .u8 0] := ⟨_, rfl⟩; have HB7 : Hid (Blk W7 wo.heap.size #[.int .u8 162, .int .u8 c', .int .u8 127, .int .u8 0, .int .u8 0, .int .u8 0, .int .u8 0, .int .u8 0] 30) := Lib.hid (by rw [hW7]; exact setRow_blk HB6.out _); have HK7 : Hid (Keep (Own.One wo.heap.size) w6 W7) := Lib.hid (by rw [hW7]; exact setRow_keep _ _ _); rw [← hW7]; clear hW7; have z0 : W7.cell? ⟨wo.heap.size, 0, none⟩ = some (.int .u8 162) := HB7.out.cell 0; have z1 : W7.cell? ⟨wo.heap.size, 1, none⟩ = some (.int .u8 c') := HB7.out.cell 1; have z2 : W7.cell? ⟨wo.heap.size, 2, none⟩ = some (.int .u8 127) := HB7.out.cell 2; have z3 : W7.cell? ⟨wo.heap.size, 3, none⟩ = some (.int .u8 0) := HB7.out.cell 3; have z4 : W7.cell? ⟨wo.heap.size, 4, none⟩ = some (.int .u8 0) := HB7.out.cell 4; have z5 : W7.cell? ⟨wo.heap.size, 5, none⟩ = some (.int .u8 0) := HB7.out.cell 5; have z6 : W7.cell? ⟨wo.heap.size, 6, none⟩ = some (.int .u8 0) := HB7.out.cell 6; have z7 : W7.cell? ⟨wo.heap.size, 7, none⟩ = some (.int .u8 0) := HB7.out.cell 7; have zf2 : W7.frozen? ⟨wo.heap.size, 2, none⟩ = false := HB7.out.frozen 2)
                  have HS7 := Lib.hid (HS6.out.far HB6.out HBase.out (HK7.out.set1 2 (.int .u8 127)))
                  refine (Feed_more (HS7.out).snd rfl rfl rfl c' 127 0 0 0 0 0 HCi.out HC127.out (by decide) (by decide) HCN.out _ rfl).mono ?_
                  rintro e w8 ⟨A8, c8, rfl, hp8⟩
                  have HS8 := Lib.hid ((HS7.out).sstep hp8.out.1 rfl hp8.out.2.2)
                  have HF8 := Lib.hid (own_mono hp8.out.2.1 (HS7.out).keep.size)
                  clear hp8
                  obtain ⟨m8, hm8⟩ : ∃ m8, m8 = min 127 (segs ys - (p + c')) := ⟨_, rfl⟩
                  have HM8 := Lib.hid hm8
                  have HS8b : Hid (Sess w w8 gs gr w1.heap.size (sndAt A1 c1 ys (p + c') m8 false) (rAt 127 (p + c') 0 ys (ansF c' 127) V)) := Lib.hid (by rw [hm8]; exact HS8.out)
                  have HF8b : Hid (FrAt w8 w.heap.size A8 m8 c8 (framesF ys (p + c') m8)) := Lib.hid (by rw [hm8]; exact HF8.out)
                  rw [show (sndAt A1 c1 ys p m false).at' = p from rfl, show (sndAt A1 c1 ys p m false).bs = ys from rfl, ← hm8]
                  clear HS8 HF8 hm8
                  go_wp2_with fail
                  refine (SDone_is HS8b.out.snd).mono ?_
                  rintro e w9 ⟨rfl, hk9⟩
                  have HS9 := Lib.hid (HS8b.out.new hk9.out)
                  have HF9 := Lib.hid (HF8b.out.new hk9.out)
                  clear hk9
                  go_wp2_with fail
                  go_roundg (1000 - (bl + 1))
                  case measure => rw [HQ.out]; omega
                  case rel => exact ⟨bl + 1, A8, c8, m8, p + c', 127, rfl, by have := HCN.out; have := HC0.out; omega, by go_num, rfl, (by decide), (by decide), .inl ⟨⟨ansF c' 127, V, HS9.out, HF9.out, HCN.out⟩, by have := HC0.out; omega, HM8.out⟩⟩
              · have HIm := Lib.hid him2
                have HS := Lib.hid hs
                have HBa : Hid (Blk wr wo.heap.size #[.int .u8 162, .int .u8 m, .int .u8 127, .int .u8 0, .int .u8 0, .int .u8 0, .int .u8 0, .int .u8 0] 30) := Lib.hid hba
                have HH2 := Lib.hid h2
                have HCi : Hid (m ≤ m) := Lib.hid (Nat.le_refl _)
                have HC0 : Hid (0 < m) := Lib.hid (by omega)
                have HC127 : Hid (m ≤ 127) := Lib.hid (by omega)
                clear hs hba h2 hilt
                have him3 := him2.symm
                subst him3
                have hn1 : ¬ (m : Int) < (m : Int) := by omega
                have z0 := (HBa.out).cell 0
                have z1 := (HBa.out).cell 1
                have z2 := (HBa.out).cell 2
                have z3 := (HBa.out).cell 3
                have z4 := (HBa.out).cell 4
                have z5 := (HBa.out).cell 5
                have z6 := (HBa.out).cell 6
                have z7 := (HBa.out).cell 7
                have zf0 := (HBa.out).frozen 0
                have zf1 := (HBa.out).frozen 1
                have zf2 := (HBa.out).frozen 2
                have zf3 := (HBa.out).frozen 3
                have zf4 := (HBa.out).frozen 4
                have zf5 := (HBa.out).frozen 5
                have zf6 := (HBa.out).frozen 6
                have zf7 := (HBa.out).frozen 7
                simp only [List.getElem?_toArray, List.getElem?_cons_zero, List.getElem?_cons_succ] at z0 z1 z2 z3 z4 z5 z6 z7
                have HKs : Hid (Keep (Own.One wo.heap.size) wr (wr.setCell ⟨wo.heap.size, 2, none⟩ (.int .u8 127))) := Lib.hid ((Keep.refl (Own.One wo.heap.size) wr).set1 2 _)
                by_cases hpm : p + m < segs ys
                · have HCN := Lib.hid hpm
                  have HS7 : Hid (Sess w (wr.setCell ⟨wo.heap.size, 2, none⟩ (.int .u8 127)) gs gr w1.heap.size (sndAt A1 c1 ys p m false) (rAt 127 (p + m) 0 ys (ansF m 127) V)) := Lib.hid (by
                    have h := HS.out
                    unfold rAns at h
                    rw [if_neg (by omega)] at h
                    exact h.far HBa.out HBase.out HKs.out)
                  clear hpm
                  go_wp2_with fail
                  refine (Feed_more (HS7.out).snd rfl rfl rfl m 127 0 0 0 0 0 HCi.out HC127.out (by decide) (by decide) HCN.out _ rfl).mono ?_
                  rintro e w8 ⟨A8, c8, rfl, hp8⟩
                  have HS8 := Lib.hid ((HS7.out).sstep hp8.out.1 rfl hp8.out.2.2)
                  have HF8 := Lib.hid (own_mono hp8.out.2.1 (HS7.out).keep.size)
                  clear hp8
                  obtain ⟨m8, hm8⟩ : ∃ m8, m8 = min 127 (segs ys - (p + m)) := ⟨_, rfl⟩
                  have HM8 := Lib.hid hm8
                  have HS8b : Hid (Sess w w8 gs gr w1.heap.size (sndAt A1 c1 ys (p + m) m8 false) (rAt 127 (p + m) 0 ys (ansF m 127) V)) := Lib.hid (by rw [hm8]; exact HS8.out)
                  have HF8b : Hid (FrAt w8 w.heap.size A8 m8 c8 (framesF ys (p + m) m8)) := Lib.hid (by rw [hm8]; exact HF8.out)
                  rw [show (sndAt A1 c1 ys p m false).at' = p from rfl, show (sndAt A1 c1 ys p m false).bs = ys from rfl, ← hm8]
                  clear HS8 HF8 hm8
                  go_wp2_with fail
                  refine (SDone_is HS8b.out.snd).mono ?_
                  rintro e w9 ⟨rfl, hk9⟩
                  have HS9 := Lib.hid (HS8b.out.new hk9.out)
                  have HF9 := Lib.hid (HF8b.out.new hk9.out)
                  clear hk9
                  go_wp2_with fail
                  go_roundg (1000 - (bl + 1))
                  case measure => rw [HQ.out]; omega
                  case rel => exact ⟨bl + 1, A8, c8, m8, p + m, 127, rfl, by have := HCN.out; have := HC0.out; omega, by go_num, rfl, (by decide), (by decide), .inl ⟨⟨ansF m 127, V, HS9.out, HF9.out, HCN.out⟩, by have := HC0.out; omega, HM8.out⟩⟩
                · have HE : Hid (p + m = segs ys) := Lib.hid (by have := HH2.out; omega)
                  have HS7 : Hid (Sess w (wr.setCell ⟨wo.heap.size, 2, none⟩ (.int .u8 127)) gs gr w1.heap.size (sndAt A1 c1 ys p m false) ⟨127, 1, 0, ansF m 127, V, pads ys (segs ys), 0⟩) := Lib.hid (by
                    have h := HS.out
                    unfold rAns at h
                    rw [if_pos HE.out, HE.out] at h
                    exact h.far HBa.out HBase.out HKs.out)
                  clear hpm
                  go_wp2_with fail
                  refine (Feed_end HS7.out.snd rfl rfl rfl m 127 0 0 0 0 0 (Nat.le_refl _) HC127.out (by decide) (by decide) HE.out).mono ?_
                  rintro e w8 ⟨A8, c8, rfl, hp8⟩
                  have HS8 := Lib.hid (HS7.out.sstep hp8.out.1 rfl hp8.out.2.2)
                  have HF8 : Hid (FrAt w8 w.heap.size A8 1 c8 [endF ys]) := Lib.hid (own_mono hp8.out.2.1 HS7.out.keep.size)
                  clear hp8
                  go_wp2_with fail
                  refine (SDone_is HS8.out.snd).mono ?_
                  rintro e w9 ⟨rfl, hk9⟩
                  have HS9 : Hid (Sess w w9 gs gr w1.heap.size (sndAt A1 c1 ys (segs ys) m true) ⟨127, 1, 0, ansF m 127, V, pads ys (segs ys), 0⟩) := Lib.hid (by
                    have h := HS8.out.new hk9.out
                    unfold sndAt at h
                    simp only [HE.out] at h
                    exact h)
                  have HF9 := Lib.hid (HF8.out.new hk9.out)
                  clear hk9
                  go_wp2_with fail
                  go_roundg (1000 - (bl + 1))
                  case measure => rw [HQ.out]; omega
                  case rel => exact ⟨bl + 1, A8, c8, 1, p, 127, rfl, by rw [← HNn.out]; omega, by go_num, rfl, (by decide), (by decide), .inr ⟨ansF m 127, V, m, rfl, HS9.out, HF9.out⟩⟩
        · obtain ⟨la0, V0, mm, rfl, hs0, hf0⟩ := hst
          obtain ⟨bq, oq, rfl, hbq, _⟩ := fr_at (j := 0) (f := endF ys) hf0.row rfl
          have HS0 := Lib.hid hs0
          have HF0 := Lib.hid hf0
          have HBase : Hid (w1.heap.size ≤ wo.heap.size) := Lib.hid hs0.rcv.bs
          clear hs0 hf0
          go_loopg [14, 15] 1 (fun q s14 s15 wi => ∃ i is, i ≤ 1 ∧ q = 1 - i ∧ s15 = .int .i64 (i : Nat) ∧ s14 = .bool is ∧ FrAt wi w.heap.size (some ⟨bq, oq, none⟩) 1 c [endF ys] ∧ ((i = 0 ∧ is = false ∧ Sess w wi gs gr w1.heap.size (sndAt A1 c1 ys (segs ys) mm true) ⟨127, 1, 0, la0, V0, pads ys (segs ys), 0⟩ ∧ Blk wi wo.heap.size (frameC fun _ => 0) 30) ∨ (i = 1 ∧ is = true ∧ ∃ V, Sess w wi gs gr w1.heap.size (sndAt A1 c1 ys (segs ys) mm true) ⟨127, 2, 0, la0, V, ys, 0⟩ ∧ Blk wi wo.heap.size #[.int .u8 161, .int .u8 0, .int .u8 0, .int .u8 0, .int .u8 0, .int .u8 0, .int .u8 0, .int .u8 0] 30)))
          case atStart => exact ⟨0, false, by omega, rfl, rfl, rfl, HF0.out.new ((Keep.refl Own.Zero wo).alloc _), .inl ⟨rfl, rfl, HS0.out.new ((Keep.refl Own.Zero wo).alloc _), Blk.new wo _ _⟩⟩
          case round =>
            obtain ⟨i, is, him, hqi, rfl, rfl, hfr, hwi⟩ := hrel
            have HQi := Lib.hid hqi
            have HFr := Lib.hid hfr
            clear hqi hfr
            rcases hwi with ⟨hi0, rfl, hs, hba⟩ | ⟨hi0, rfl, V, hs, hba⟩
            · have hi1 : (i : Int) < 1 := by omega
              have hsz1 : 1 ≤ 127 := (by decide)
              have hi2 : (i : Int) < 127 := by omega
              have HS := Lib.hid hs
              have HBa := Lib.hid hba
              obtain ⟨F, hF⟩ : ∃ F, F = endF ys := ⟨_, rfl⟩
              have HFf := Lib.hid hF
              obtain ⟨b', o', hb', _, hz⟩ := fr_at (j := i) (f := endF ys) HFr.out.row (by rw [hi0]; rfl)
              cases hb'
              rw [← hF] at hz
              have x0 := hz 0 (by omega)
              have x1 := hz 1 (by omega)
              have x2 := hz 2 (by omega)
              have x3 := hz 3 (by omega)
              have x4 := hz 4 (by omega)
              have x5 := hz 5 (by omega)
              have x6 := hz 6 (by omega)
              have x7 := hz 7 (by omega)
              simp only [← Nat.add_assoc, Nat.add_zero] at x0 x1 x2 x3 x4 x5 x6 x7
              have HI0 := Lib.hid hi0
              clear hs hba hF hz hi0 hsz1
              go_wp2_with fail
              have hcall := feed_end HS.out.rcv HI.out.byte (by rw [← HN.out]; omega)
              rw [← HFf.out] at hcall
              refine hcall.mono ?_
              rintro e w6 ⟨rfl, V6, hp⟩
              have hl6 := HS.out.laid HBa.out HBase.out hp.out.1 hp.out.2
              have HS6 := Lib.hid hl6.1
              have HB6 := Lib.hid hl6.2
              have HKr := Lib.hid hp.out.2
              clear hcall hp hl6 x0 x1 x2 x3 x4 x5 x6 x7
              rw [show aggF (fun k => if k = 0 then 161 else 0) = .agg #[.int .u8 161, .int .u8 0, .int .u8 0, .int .u8 0, .int .u8 0, .int .u8 0, .int .u8 0, .int .u8 0] from rfl]
              have z0 := (HB6.out).cell 0
              have z1 := (HB6.out).cell 1
              have z2 := (HB6.out).cell 2
              have z3 := (HB6.out).cell 3
              have z4 := (HB6.out).cell 4
              have z5 := (HB6.out).cell 5
              have z6 := (HB6.out).cell 6
              have z7 := (HB6.out).cell 7
              have zf0 := (HB6.out).frozen 0
              have zf1 := (HB6.out).frozen 1
              have zf2 := (HB6.out).frozen 2
              have zf3 := (HB6.out).frozen 3
              have zf4 := (HB6.out).frozen 4
              have zf5 := (HB6.out).frozen 5
              have zf6 := (HB6.out).frozen 6
              have zf7 := (HB6.out).frozen 7
              simp only [frameC, List.getElem?_toArray, List.getElem?_cons_zero, List.getElem?_cons_succ] at z0 z1 z2 z3 z4 z5 z6 z7
              go_wp2_with fail
              have HK7 : Hid (Keep (Own.One wo.heap.size) w6 _) := Lib.hid (keep8 (Keep.refl (Own.One wo.heap.size) w6) (.inl rfl) (.int .u8 161) (.int .u8 0) (.int .u8 0) (.int .u8 0) (.int .u8 0) (.int .u8 0) (.int .u8 0) (.int .u8 0))
              have hfr7 := (HFr.out.rstep HS.out.rcv HKr.out).far (fun a ha => by cases ha; exact Nat.ne_of_lt hbq) HK7.out
              have hs7 := HS6.out.far HB6.out HBase.out HK7.out
              have hb7 := blk8 HB6.out (.int .u8 161) (.int .u8 0) (.int .u8 0) (.int .u8 0) (.int .u8 0) (.int .u8 0) (.int .u8 0) (.int .u8 0)
              go_roundg (1 - (i + 1))
              case measure => rw [HQi.out]; have := HI0.out; omega
              case rel => exact ⟨i + 1, true, by have := HI0.out; omega, rfl, by go_num, rfl, hfr7, .inr ⟨by rw [HI0.out], rfl, V6, hs7, hb7⟩⟩
            · have hnl : ¬ (i : Int) < 1 := by omega
              have HS := Lib.hid hs
              have HBa := Lib.hid hba
              clear hs hba hi0
              have z0 := (HBa.out).cell 0
              have z1 := (HBa.out).cell 1
              have z2 := (HBa.out).cell 2
              have z3 := (HBa.out).cell 3
              have z4 := (HBa.out).cell 4
              have z5 := (HBa.out).cell 5
              have z6 := (HBa.out).cell 6
              have z7 := (HBa.out).cell 7
              have zf0 := (HBa.out).frozen 0
              have zf1 := (HBa.out).frozen 1
              have zf2 := (HBa.out).frozen 2
              have zf3 := (HBa.out).frozen 3
              have zf4 := (HBa.out).frozen 4
              have zf5 := (HBa.out).frozen 5
              have zf6 := (HBa.out).frozen 6
              have zf7 := (HBa.out).frozen 7
              simp only [List.getElem?_toArray, List.getElem?_cons_zero, List.getElem?_cons_succ] at z0 z1 z2 z3 z4 z5 z6 z7
              go_wp2_with fail
              refine (Feed_taken HS.out.snd rfl rfl rfl 0 0 0 0 0 0 0).mono ?_
              rintro e w8 ⟨rfl, hp8⟩
              have HS8 := Lib.hid (HS.out.sstep hp8.out.1 rfl hp8.out.2)
              clear hp8 z0 z1 z2 z3 z4 z5 z6 z7 zf0 zf1 zf2 zf3 zf4 zf5 zf6 zf7
              go_wp2_with fail
              refine (SDone_is HS8.out.snd).mono ?_
              rintro e w9 ⟨rfl, hk9⟩
              have HS9 := Lib.hid (HS8.out.new hk9.out)
              clear hk9
              rw [show (sndAt A1 c1 ys (segs ys) mm true).code = 0 from rfl]
              go_wp2_with fail
              refine (RDone_over HS9.out.rcv rfl).mono ?_
              rintro e w10 ⟨A10, c10, rfl, hp10⟩
              have HGot := Lib.hid hp10.out.1
              have HK10 : Hid (Keep Own.Zero w w10) := Lib.hid (HS9.out.keep.trans hp10.out.2 (fun _ h => h.elim))
              have HB10 : Hid (Row w10 A (ints .u8 ys)) := Lib.hid (HI.out.row.keep HK10.out (fun _ _ _ => id))
              clear hp10
              have hs1 : Sem.run Try.prog (convert 22 9 (.slice A10 n c10)) w10 = .ok (.string (str ys)) w10 := run_str under22 under5 under9 HGot.out.row n HN.out
              have hs2 : Sem.run Try.prog (convert 22 9 (.slice A n cA)) w10 = .ok (.string (str ys)) w10 := run_str under22 under5 under9 HB10.out n HN.out
              rw [show (⟨127, 2, 0, la0, V, ys, 0⟩ : Rcv).xs = ys from rfl, show (⟨127, 2, 0, la0, V, ys, 0⟩ : Rcv).code = 0 from rfl, ← HN.out]
              go_wp2_with ((with_reducible refine (lives_is _).mono ?_); rintro e w11 ⟨rfl, hk11⟩)
              go_ret
              exact ⟨rfl, HK10.out.trans hk11.out (fun _ h => h.elim)⟩
      · have hK9 : 0 < K := by omega
        have hK8 : (0 : Int) < (K : Int) := by omega
        have hkeep : Keep Own.Zero w wo := by
          rcases hst with ⟨⟨la, V, hs, _⟩, _⟩ | ⟨la, V, mm, _, hs, _⟩
          · exact hs.keep
          · exact hs.keep
        obtain ⟨z, hz9⟩ : ∃ z, zs[bl % K]? = some z := ⟨_, List.getElem?_eq_getElem (by rw [← HKl.out]; exact Nat.mod_lt _ hK9)⟩
        obtain ⟨bB, oB, rfl, hbB, hzB⟩ := HB.out.row (bl % K) (.int .u8 z) (by rw [ints_get, hz9]; rfl)
        have xB := (hkeep.cell (p := ⟨bB, oB + bl % K, none⟩) hbB id).trans hzB
        have hzb := HB.out.byte z (List.mem_of_getElem? hz9)
        obtain ⟨jm, hjm⟩ : ∃ jm, jm = bl % K := ⟨_, rfl⟩
        have hjK : jm < K := by rw [hjm]; exact Nat.mod_lt _ hK9
        have hjm2 : (bl : Int).tmod (K : Int) = (jm : Int) := by
          rw [Int.tmod_eq_emod_of_nonneg (by omega), hjm]
          simp
        rw [← hjm] at xB
        obtain ⟨SZ, hSZ⟩ : ∃ SZ : Nat, SZ = 1 + z.toNat % 127 := ⟨_, rfl⟩
        have sz0 : 1 ≤ SZ := by omega
        have sz1 : SZ ≤ 127 := by omega
        have hzt : z.tmod 127 = z % 127 := Int.tmod_eq_emod_of_nonneg hzb.1
        have hzk : 1 + z % 127 = (SZ : Int) := by omega
        clear hkeep hz9 hzB hjm hSZ hK0
        go_wp2_with fail
        rcases hst with ⟨hst, hbp, hm⟩ | hst
        · obtain ⟨la0, V0, hs0, hf0, hpN⟩ := hst
          rw [← HNn.out] at hpN hm
          have hm1 : 1 ≤ m := by omega
          have hmk : m ≤ 127 := by omega
          have hmN : p + m ≤ N := by omega
          obtain ⟨bq, oq, rfl, hbq, _⟩ := fr_at hf0.row (framesF_get (bs := ys) (p := p) (show 0 < m by omega))
          have HS0 := Lib.hid hs0
          have HF0 := Lib.hid hf0
          have HMm := Lib.hid hm
          have HBase : Hid (w1.heap.size ≤ wo.heap.size) := Lib.hid hs0.rcv.bs
          clear hs0 hf0 hm
          go_loopg [14, 15] m (fun q s14 s15 wi => ∃ i is, i ≤ m ∧ q = m - i ∧ s15 = .int .i64 (i : Nat) ∧ s14 = .bool is ∧ FrAt wi w.heap.size (some ⟨bq, oq, none⟩) m c (framesF ys p m) ∧ Within w wi gs gr w1.heap.size A1 c1 ys 127 p m i wo.heap.size is)
          case atStart => exact ⟨0, false, Nat.zero_le _, rfl, rfl, rfl, HF0.out.new ((Keep.refl Own.Zero wo).alloc _), .inl ⟨0, la0, V0, fun _ => 0, rfl, Nat.le_refl _, (fun h => by omega), by rw [← HNn.out]; exact hpN, HS0.out.new ((Keep.refl Own.Zero wo).alloc _), Blk.new wo _ _⟩⟩
          case round =>
            obtain ⟨i, is, him, hqi, rfl, rfl, hfr, hwi⟩ := hrel
            have HQi := Lib.hid hqi
            have HFr := Lib.hid hfr
            clear hqi hfr
            by_cases hilt : i < m ∧ i < SZ
            · obtain ⟨hilt, hisz⟩ := hilt
              have hi1 : (i : Int) < (m : Int) := by omega
              have hi2 : (i : Int) < (SZ : Int) := by omega
              have hi0 : (0 : Int) ≤ (i : Int) := by omega
              rcases hwi with ⟨c', la, V, G, rfl, hci, hc0, hcN, hs, hba⟩ | ⟨V, rfl, h2, _⟩
              · have HS := Lib.hid hs
                have HBa := Lib.hid hba
                rw [← HNn.out] at hcN
                obtain ⟨F, hF⟩ : ∃ F, F = segF ys (p + i) i := ⟨_, rfl⟩
                have HFf := Lib.hid hF
                obtain ⟨b', o', hb', _, hz⟩ := fr_at HFr.out.row (framesF_get (bs := ys) (p := p) hilt)
                cases hb'
                rw [← hF] at hz
                have x0 := hz 0 (by omega)
                have x1 := hz 1 (by omega)
                have x2 := hz 2 (by omega)
                have x3 := hz 3 (by omega)
                have x4 := hz 4 (by omega)
                have x5 := hz 5 (by omega)
                have x6 := hz 6 (by omega)
                have x7 := hz 7 (by omega)
                simp only [← Nat.add_assoc, Nat.add_zero] at x0 x1 x2 x3 x4 x5 x6 x7
                clear hs hba hF hz
                go_wp2_with fail
                by_cases hci2 : c' = i
                · have hci3 := hci2.symm
                  subst hci3
                  rw [HNn.out] at hcN
                  have hcall := feed_next HS.out.rcv HI.out.byte (by rw [← HN.out]; omega) (by omega) hcN
                  rw [← HFf.out] at hcall
                  refine hcall.mono ?_
                  rintro e w6 (⟨hc9, rfl, V6, hp⟩ | ⟨hc9, rfl, V6, hp⟩)
                  · have hl6 := HS.out.laid HBa.out HBase.out hp.out.1 hp.out.2
                    have him1 : i + 1 = m := by have := HMm.out; have := HNn.out; omega
                    rw [him1] at hl6
                    have HS6 := Lib.hid hl6.1
                    have HB6 := Lib.hid hl6.2
                    have HKr := Lib.hid hp.out.2
                    have HHc := Lib.hid hc9
                    clear hcall hp hl6 hc9
                    rw [aggF_ans]
                    have z0 := (HB6.out).cell 0
                    have z1 := (HB6.out).cell 1
                    have z2 := (HB6.out).cell 2
                    have z3 := (HB6.out).cell 3
                    have z4 := (HB6.out).cell 4
                    have z5 := (HB6.out).cell 5
                    have z6 := (HB6.out).cell 6
                    have z7 := (HB6.out).cell 7
                    have zf0 := (HB6.out).frozen 0
                    have zf1 := (HB6.out).frozen 1
                    have zf2 := (HB6.out).frozen 2
                    have zf3 := (HB6.out).frozen 3
                    have zf4 := (HB6.out).frozen 4
                    have zf5 := (HB6.out).frozen 5
                    have zf6 := (HB6.out).frozen 6
                    have zf7 := (HB6.out).frozen 7
                    simp only [frameC, List.getElem?_toArray, List.getElem?_cons_zero, List.getElem?_cons_succ] at z0 z1 z2 z3 z4 z5 z6 z7
                    clear x0 x1 x2 x3 x4 x5 x6 x7
                    go_wp2_with fail
                    have HK7 : Hid (Keep (Own.One wo.heap.size) w6 _) := Lib.hid (keep8 (Keep.refl (Own.One wo.heap.size) w6) (.inl rfl) (.int .u8 162) (.int .u8 m) (.int .u8 127) (.int .u8 0) (.int .u8 0) (.int .u8 0) (.int .u8 0) (.int .u8 0))
                    have hfr7 := (HFr.out.rstep HS.out.rcv HKr.out).far (fun a ha => by cases ha; exact Nat.ne_of_lt hbq) HK7.out
                    have hs7 := HS6.out.far HB6.out HBase.out HK7.out
                    have hb7 := blk8 HB6.out (.int .u8 162) (.int .u8 m) (.int .u8 127) (.int .u8 0) (.int .u8 0) (.int .u8 0) (.int .u8 0) (.int .u8 0)
                    go_roundg (m - (i + 1))
                    case measure => rw [HQi.out]; omega
                    case rel => exact ⟨i + 1, true, hilt, rfl, by go_num, rfl, hfr7, .inr ⟨V6, rfl, him1, by rw [← HNn.out]; omega, hs7, hb7⟩⟩
                  · have hl6 := HS.out.laid HBa.out HBase.out hp.out.1 hp.out.2
                    have HS6 := Lib.hid hl6.1
                    have HB6 := Lib.hid hl6.2
                    have HKr := Lib.hid hp.out.2
                    have hlt6 : p + (i + 1) < segs ys := by omega
                    clear hcall hp hl6 hc9
                    rw [aggF_0]
                    have z0 := (HB6.out).cell 0
                    have z1 := (HB6.out).cell 1
                    have z2 := (HB6.out).cell 2
                    have z3 := (HB6.out).cell 3
                    have z4 := (HB6.out).cell 4
                    have z5 := (HB6.out).cell 5
                    have z6 := (HB6.out).cell 6
                    have z7 := (HB6.out).cell 7
                    have zf0 := (HB6.out).frozen 0
                    have zf1 := (HB6.out).frozen 1
                    have zf2 := (HB6.out).frozen 2
                    have zf3 := (HB6.out).frozen 3
                    have zf4 := (HB6.out).frozen 4
                    have zf5 := (HB6.out).frozen 5
                    have zf6 := (HB6.out).frozen 6
                    have zf7 := (HB6.out).frozen 7
                    simp only [frameC, List.getElem?_toArray, List.getElem?_cons_zero, List.getElem?_cons_succ] at z0 z1 z2 z3 z4 z5 z6 z7
                    clear x0 x1 x2 x3 x4 x5 x6 x7
                    go_wp2_with fail
                    have HK7 : Hid (Keep (Own.One wo.heap.size) w6 _) := Lib.hid (keep8 (Keep.refl (Own.One wo.heap.size) w6) (.inl rfl) (.int .u8 0) (.int .u8 0) (.int .u8 0) (.int .u8 0) (.int .u8 0) (.int .u8 0) (.int .u8 0) (.int .u8 0))
                    have hfr7 := (HFr.out.rstep HS.out.rcv HKr.out).far (fun a ha => by cases ha; exact Nat.ne_of_lt hbq) HK7.out
                    have hs7 := HS6.out.far HB6.out HBase.out HK7.out
                    have hb7 := blk8 HB6.out (.int .u8 0) (.int .u8 0) (.int .u8 0) (.int .u8 0) (.int .u8 0) (.int .u8 0) (.int .u8 0) (.int .u8 0)
                    go_roundg (m - (i + 1))
                    case measure => rw [HQi.out]; omega
                    case rel => exact ⟨i + 1, false, hilt, rfl, by go_num, rfl, hfr7, .inl ⟨i + 1, la, V6, fun _ => 0, rfl, Nat.le_refl _, (fun _ => by omega), hlt6, hs7, hb7⟩⟩
                · have hcall := feed_skip (i := i) HS.out.rcv (by omega) hci2
                  rw [← HFf.out] at hcall
                  refine hcall.mono ?_
                  rintro e w6 ⟨rfl, V6, hp⟩
                  have hl6 := HS.out.laid HBa.out HBase.out hp.out.1 hp.out.2
                  have HS6 := Lib.hid hl6.1
                  have HB6 := Lib.hid hl6.2
                  have HKr := Lib.hid hp.out.2
                  clear hcall hp hl6
                  rw [aggF_0]
                  have z0 := (HB6.out).cell 0
                  have z1 := (HB6.out).cell 1
                  have z2 := (HB6.out).cell 2
                  have z3 := (HB6.out).cell 3
                  have z4 := (HB6.out).cell 4
                  have z5 := (HB6.out).cell 5
                  have z6 := (HB6.out).cell 6
                  have z7 := (HB6.out).cell 7
                  have zf0 := (HB6.out).frozen 0
                  have zf1 := (HB6.out).frozen 1
                  have zf2 := (HB6.out).frozen 2
                  have zf3 := (HB6.out).frozen 3
                  have zf4 := (HB6.out).frozen 4
                  have zf5 := (HB6.out).frozen 5
                  have zf6 := (HB6.out).frozen 6
                  have zf7 := (HB6.out).frozen 7
                  simp only [frameC, List.getElem?_toArray, List.getElem?_cons_zero, List.getElem?_cons_succ] at z0 z1 z2 z3 z4 z5 z6 z7
                  clear x0 x1 x2 x3 x4 x5 x6 x7
                  go_wp2_with fail
                  have HK7 : Hid (Keep (Own.One wo.heap.size) w6 _) := Lib.hid (keep8 (Keep.refl (Own.One wo.heap.size) w6) (.inl rfl) (.int .u8 0) (.int .u8 0) (.int .u8 0) (.int .u8 0) (.int .u8 0) (.int .u8 0) (.int .u8 0) (.int .u8 0))
                  have hfr7 := (HFr.out.rstep HS.out.rcv HKr.out).far (fun a ha => by cases ha; exact Nat.ne_of_lt hbq) HK7.out
                  have hs7 := HS6.out.far HB6.out HBase.out HK7.out
                  have hb7 := blk8 HB6.out (.int .u8 0) (.int .u8 0) (.int .u8 0) (.int .u8 0) (.int .u8 0) (.int .u8 0) (.int .u8 0) (.int .u8 0)
                  go_roundg (m - (i + 1))
                  case measure => rw [HQi.out]; omega
                  case rel => exact ⟨i + 1, false, hilt, rfl, by go_num, rfl, hfr7, .inl ⟨c', la, V6, fun _ => 0, rfl, by omega, (fun _ => by omega), by rw [← HNn.out]; exact hcN, hs7, hb7⟩⟩
              · omega
            · rcases hwi with ⟨c', la, V, G, rfl, hci, hc0, hcN, hs, hba⟩ | ⟨V, rfl, him2, h2, hs, hba⟩
              · have HS := Lib.hid hs
                have HBa := Lib.hid hba
                have HC0 := Lib.hid (show 0 < c' from hc0 (by omega))
                have HCN := Lib.hid hcN
                have HCi : Hid (c' ≤ m) := Lib.hid (by omega)
                have HC127 : Hid (c' ≤ 127) := Lib.hid (by omega)
                clear hs hba hc0 hcN hci
                by_cases hie : i < m
                · have hn1 : (i : Int) < (m : Int) := by omega
                  have hn2 : ¬ (i : Int) < (SZ : Int) := by omega
                  clear hilt
                  first
                    | (exfalso; omega)
                    | (go_wp2_with fail
                       refine (Ask_0 HS.out.rcv rfl).mono ?_
                       rintro e w6 ⟨rfl, hp⟩
                       have hl6 := HS.out.laid HBa.out HBase.out hp.out.1 (hp.out.2.mono (fun k hk => .inl hk))
                       have HS6 : Hid (Sess w w6 gs gr w1.heap.size (sndAt A1 c1 ys p m false) (rAt 127 (p + c') 0 ys (ansF c' 127) V)) := Lib.hid hl6.1
                       have HB6 := Lib.hid hl6.2
                       clear hp hl6
                       rw [aggF_ans]
                       go_wp2_with (refine wpList_store_row rfl 30 (.tmp 13) (.tmp 99) rfl wo.heap.size #[.int .u8 162, .int .u8 c', .int .u8 127, .int .u8 0, .int .u8 0, .int .u8 0, .int .u8 0, .int .u8 0] rfl rfl 30 (frameC G) HB6.out size30' rfl (by simp [Value.oneCell']) ?_; obtain ⟨W7, hW7⟩ : ∃ x, x = w6.setRow wo.heap.size #[.int .u8 162, .int .u8 c', .int .u8 127, .int .u8 0, .int .u8 0, .int .u8 0, .int .u8 0, .int .u8 0] := ⟨_, rfl⟩; have HB7 : Hid (Blk W7 wo.heap.size #[.int .u8 162, .int .u8 c', .int .u8 127, .int .u8 0, .int .u8 0, .int .u8 0, .int .u8 0, .int .u8 0] 30) := Lib.hid (by rw [hW7]; exact setRow_blk HB6.out _); have HK7 : Hid (Keep (Own.One wo.heap.size) w6 W7) := Lib.hid (by rw [hW7]; exact setRow_keep _ _ _); rw [← hW7]; clear hW7; have z0 : W7.cell? ⟨wo.heap.size, 0, none⟩ = some (.int .u8 162) := HB7.out.cell 0; have z1 : W7.cell? ⟨wo.heap.size, 1, none⟩ = some (.int .u8 c') := HB7.out.cell 1; have z2 : W7.cell? ⟨wo.heap.size, 2, none⟩ = some (.int .u8 127) := HB7.out.cell 2; have z3 : W7.cell? ⟨wo.heap.size, 3, none⟩ = some (.int .u8 0) := HB7.out.cell 3; have z4 : W7.cell? ⟨wo.heap.size, 4, none⟩ = some (.int .u8 0) := HB7.out.cell 4; have z5 : W7.cell? ⟨wo.heap.size, 5, none⟩ = some (.int .u8 0) := HB7.out.cell 5; have z6 : W7.cell? ⟨wo.heap.size, 6, none⟩ = some (.int .u8 0) := HB7.out.cell 6; have z7 : W7.cell? ⟨wo.heap.size, 7, none⟩ = some (.int .u8 0) := HB7.out.cell 7; have zf2 : W7.frozen? ⟨wo.heap.size, 2, none⟩ = false := HB7.out.frozen 2)
                       have HS7 := Lib.hid (HS6.out.far HB6.out HBase.out (HK7.out.set1 2 (.int .u8 (SZ : Int))))
                       refine (Feed_more (HS7.out).snd rfl rfl rfl c' SZ 0 0 0 0 0 HCi.out HC127.out sz0 sz1 HCN.out _ rfl).mono ?_
                       rintro e w8 ⟨A8, c8, rfl, hp8⟩
                       have HS8 := Lib.hid ((HS7.out).sstep hp8.out.1 rfl hp8.out.2.2)
                       have HF8 := Lib.hid (own_mono hp8.out.2.1 (HS7.out).keep.size)
                       clear hp8
                       obtain ⟨m8, hm8⟩ : ∃ m8, m8 = min SZ (segs ys - (p + c')) := ⟨_, rfl⟩
                       have HM8 := Lib.hid hm8
                       have HS8b : Hid (Sess w w8 gs gr w1.heap.size (sndAt A1 c1 ys (p + c') m8 false) (rAt 127 (p + c') 0 ys (ansF c' 127) V)) := Lib.hid (by rw [hm8]; exact HS8.out)
                       have HF8b : Hid (FrAt w8 w.heap.size A8 m8 c8 (framesF ys (p + c') m8)) := Lib.hid (by rw [hm8]; exact HF8.out)
                       rw [show (sndAt A1 c1 ys p m false).at' = p from rfl, show (sndAt A1 c1 ys p m false).bs = ys from rfl, ← hm8]
                       clear HS8 HF8 hm8
                       go_wp2_with fail
                       refine (SDone_is HS8b.out.snd).mono ?_
                       rintro e w9 ⟨rfl, hk9⟩
                       have HS9 := Lib.hid (HS8b.out.new hk9.out)
                       have HF9 := Lib.hid (HF8b.out.new hk9.out)
                       clear hk9
                       go_wp2_with fail
                       go_roundg (1000 - (bl + 1))
                       case measure => rw [HQ.out]; omega
                       case rel => exact ⟨bl + 1, A8, c8, m8, p + c', SZ, rfl, by have := HCN.out; have := HC0.out; omega, by go_num, rfl, sz0, sz1, .inl ⟨⟨ansF c' 127, V, HS9.out, HF9.out, HCN.out⟩, by have := HC0.out; omega, HM8.out⟩⟩
                      )
                · clear hilt
                  have him2 : m = i := by omega
                  subst him2
                  have hn1 : ¬ (m : Int) < (m : Int) := by omega
                  clear hie
                  go_wp2_with fail
                  refine (Ask_0 HS.out.rcv rfl).mono ?_
                  rintro e w6 ⟨rfl, hp⟩
                  have hl6 := HS.out.laid HBa.out HBase.out hp.out.1 (hp.out.2.mono (fun k hk => .inl hk))
                  have HS6 : Hid (Sess w w6 gs gr w1.heap.size (sndAt A1 c1 ys p m false) (rAt 127 (p + c') 0 ys (ansF c' 127) V)) := Lib.hid hl6.1
                  have HB6 := Lib.hid hl6.2
                  clear hp hl6
                  rw [aggF_ans]
                  go_wp2_with (refine wpList_store_row rfl 30 (.tmp 13) (.tmp 99) rfl wo.heap.size #[.int .u8 162, .int .u8 c', .int .u8 127, .int .u8 0, .int .u8 0, .int .u8 0, .int .u8 0, .int .u8 0] rfl rfl 30 (frameC G) HB6.out size30' rfl (by simp [Value.oneCell']) ?_; obtain ⟨W7, hW7⟩ : ∃ x, x = w6.setRow wo.heap.size #[.int .u8 162, .int .u8 c', .int .u8 127, .int .u8 0, .int .u8 0, .int .u8 0, .int .u8 0, .int .u8 0] := ⟨_, rfl⟩; have HB7 : Hid (Blk W7 wo.heap.size #[.int .u8 162, .int .u8 c', .int .u8 127, .int .u8 0, .int .u8 0, .int .u8 0, .int .u8 0, .int .u8 0] 30) := Lib.hid (by rw [hW7]; exact setRow_blk HB6.out _); have HK7 : Hid (Keep (Own.One wo.heap.size) w6 W7) := Lib.hid (by rw [hW7]; exact setRow_keep _ _ _); rw [← hW7]; clear hW7; have z0 : W7.cell? ⟨wo.heap.size, 0, none⟩ = some (.int .u8 162) := HB7.out.cell 0; have z1 : W7.cell? ⟨wo.heap.size, 1, none⟩ = some (.int .u8 c') := HB7.out.cell 1; have z2 : W7.cell? ⟨wo.heap.size, 2, none⟩ = some (.int .u8 127) := HB7.out.cell 2; have z3 : W7.cell? ⟨wo.heap.size, 3, none⟩ = some (.int .u8 0) := HB7.out.cell 3; have z4 : W7.cell? ⟨wo.heap.size, 4, none⟩ = some (.int .u8 0) := HB7.out.cell 4; have z5 : W7.cell? ⟨wo.heap.size, 5, none⟩ = some (.int .u8 0) := HB7.out.cell 5; have z6 : W7.cell? ⟨wo.heap.size, 6, none⟩ = some (.int .u8 0) := HB7.out.cell 6; have z7 : W7.cell? ⟨wo.heap.size, 7, none⟩ = some (.int .u8 0) := HB7.out.cell 7; have zf2 : W7.frozen? ⟨wo.heap.size, 2, none⟩ = false := HB7.out.frozen 2)
                  have HS7 := Lib.hid (HS6.out.far HB6.out HBase.out (HK7.out.set1 2 (.int .u8 (SZ : Int))))
                  refine (Feed_more (HS7.out).snd rfl rfl rfl c' SZ 0 0 0 0 0 HCi.out HC127.out sz0 sz1 HCN.out _ rfl).mono ?_
                  rintro e w8 ⟨A8, c8, rfl, hp8⟩
                  have HS8 := Lib.hid ((HS7.out).sstep hp8.out.1 rfl hp8.out.2.2)
                  have HF8 := Lib.hid (own_mono hp8.out.2.1 (HS7.out).keep.size)
                  clear hp8
                  obtain ⟨m8, hm8⟩ : ∃ m8, m8 = min SZ (segs ys - (p + c')) := ⟨_, rfl⟩
                  have HM8 := Lib.hid hm8
                  have HS8b : Hid (Sess w w8 gs gr w1.heap.size (sndAt A1 c1 ys (p + c') m8 false) (rAt 127 (p + c') 0 ys (ansF c' 127) V)) := Lib.hid (by rw [hm8]; exact HS8.out)
                  have HF8b : Hid (FrAt w8 w.heap.size A8 m8 c8 (framesF ys (p + c') m8)) := Lib.hid (by rw [hm8]; exact HF8.out)
                  rw [show (sndAt A1 c1 ys p m false).at' = p from rfl, show (sndAt A1 c1 ys p m false).bs = ys from rfl, ← hm8]
                  clear HS8 HF8 hm8
                  go_wp2_with fail
                  refine (SDone_is HS8b.out.snd).mono ?_
                  rintro e w9 ⟨rfl, hk9⟩
                  have HS9 := Lib.hid (HS8b.out.new hk9.out)
                  have HF9 := Lib.hid (HF8b.out.new hk9.out)
                  clear hk9
                  go_wp2_with fail
                  go_roundg (1000 - (bl + 1))
                  case measure => rw [HQ.out]; omega
                  case rel => exact ⟨bl + 1, A8, c8, m8, p + c', SZ, rfl, by have := HCN.out; have := HC0.out; omega, by go_num, rfl, sz0, sz1, .inl ⟨⟨ansF c' 127, V, HS9.out, HF9.out, HCN.out⟩, by have := HC0.out; omega, HM8.out⟩⟩
              · have HIm := Lib.hid him2
                have HS := Lib.hid hs
                have HBa : Hid (Blk wr wo.heap.size #[.int .u8 162, .int .u8 m, .int .u8 127, .int .u8 0, .int .u8 0, .int .u8 0, .int .u8 0, .int .u8 0] 30) := Lib.hid hba
                have HH2 := Lib.hid h2
                have HCi : Hid (m ≤ m) := Lib.hid (Nat.le_refl _)
                have HC0 : Hid (0 < m) := Lib.hid (by omega)
                have HC127 : Hid (m ≤ 127) := Lib.hid (by omega)
                clear hs hba h2 hilt
                have him3 := him2.symm
                subst him3
                have hn1 : ¬ (m : Int) < (m : Int) := by omega
                have z0 := (HBa.out).cell 0
                have z1 := (HBa.out).cell 1
                have z2 := (HBa.out).cell 2
                have z3 := (HBa.out).cell 3
                have z4 := (HBa.out).cell 4
                have z5 := (HBa.out).cell 5
                have z6 := (HBa.out).cell 6
                have z7 := (HBa.out).cell 7
                have zf0 := (HBa.out).frozen 0
                have zf1 := (HBa.out).frozen 1
                have zf2 := (HBa.out).frozen 2
                have zf3 := (HBa.out).frozen 3
                have zf4 := (HBa.out).frozen 4
                have zf5 := (HBa.out).frozen 5
                have zf6 := (HBa.out).frozen 6
                have zf7 := (HBa.out).frozen 7
                simp only [List.getElem?_toArray, List.getElem?_cons_zero, List.getElem?_cons_succ] at z0 z1 z2 z3 z4 z5 z6 z7
                have HKs : Hid (Keep (Own.One wo.heap.size) wr (wr.setCell ⟨wo.heap.size, 2, none⟩ (.int .u8 (SZ : Int)))) := Lib.hid ((Keep.refl (Own.One wo.heap.size) wr).set1 2 _)
                by_cases hpm : p + m < segs ys
                · have HCN := Lib.hid hpm
                  have HS7 : Hid (Sess w (wr.setCell ⟨wo.heap.size, 2, none⟩ (.int .u8 (SZ : Int))) gs gr w1.heap.size (sndAt A1 c1 ys p m false) (rAt 127 (p + m) 0 ys (ansF m 127) V)) := Lib.hid (by
                    have h := HS.out
                    unfold rAns at h
                    rw [if_neg (by omega)] at h
                    exact h.far HBa.out HBase.out HKs.out)
                  clear hpm
                  go_wp2_with fail
                  refine (Feed_more (HS7.out).snd rfl rfl rfl m SZ 0 0 0 0 0 HCi.out HC127.out sz0 sz1 HCN.out _ rfl).mono ?_
                  rintro e w8 ⟨A8, c8, rfl, hp8⟩
                  have HS8 := Lib.hid ((HS7.out).sstep hp8.out.1 rfl hp8.out.2.2)
                  have HF8 := Lib.hid (own_mono hp8.out.2.1 (HS7.out).keep.size)
                  clear hp8
                  obtain ⟨m8, hm8⟩ : ∃ m8, m8 = min SZ (segs ys - (p + m)) := ⟨_, rfl⟩
                  have HM8 := Lib.hid hm8
                  have HS8b : Hid (Sess w w8 gs gr w1.heap.size (sndAt A1 c1 ys (p + m) m8 false) (rAt 127 (p + m) 0 ys (ansF m 127) V)) := Lib.hid (by rw [hm8]; exact HS8.out)
                  have HF8b : Hid (FrAt w8 w.heap.size A8 m8 c8 (framesF ys (p + m) m8)) := Lib.hid (by rw [hm8]; exact HF8.out)
                  rw [show (sndAt A1 c1 ys p m false).at' = p from rfl, show (sndAt A1 c1 ys p m false).bs = ys from rfl, ← hm8]
                  clear HS8 HF8 hm8
                  go_wp2_with fail
                  refine (SDone_is HS8b.out.snd).mono ?_
                  rintro e w9 ⟨rfl, hk9⟩
                  have HS9 := Lib.hid (HS8b.out.new hk9.out)
                  have HF9 := Lib.hid (HF8b.out.new hk9.out)
                  clear hk9
                  go_wp2_with fail
                  go_roundg (1000 - (bl + 1))
                  case measure => rw [HQ.out]; omega
                  case rel => exact ⟨bl + 1, A8, c8, m8, p + m, SZ, rfl, by have := HCN.out; have := HC0.out; omega, by go_num, rfl, sz0, sz1, .inl ⟨⟨ansF m 127, V, HS9.out, HF9.out, HCN.out⟩, by have := HC0.out; omega, HM8.out⟩⟩
                · have HE : Hid (p + m = segs ys) := Lib.hid (by have := HH2.out; omega)
                  have HS7 : Hid (Sess w (wr.setCell ⟨wo.heap.size, 2, none⟩ (.int .u8 (SZ : Int))) gs gr w1.heap.size (sndAt A1 c1 ys p m false) ⟨127, 1, 0, ansF m 127, V, pads ys (segs ys), 0⟩) := Lib.hid (by
                    have h := HS.out
                    unfold rAns at h
                    rw [if_pos HE.out, HE.out] at h
                    exact h.far HBa.out HBase.out HKs.out)
                  clear hpm
                  go_wp2_with fail
                  refine (Feed_end HS7.out.snd rfl rfl rfl m SZ 0 0 0 0 0 (Nat.le_refl _) HC127.out sz0 sz1 HE.out).mono ?_
                  rintro e w8 ⟨A8, c8, rfl, hp8⟩
                  have HS8 := Lib.hid (HS7.out.sstep hp8.out.1 rfl hp8.out.2.2)
                  have HF8 : Hid (FrAt w8 w.heap.size A8 1 c8 [endF ys]) := Lib.hid (own_mono hp8.out.2.1 HS7.out.keep.size)
                  clear hp8
                  go_wp2_with fail
                  refine (SDone_is HS8.out.snd).mono ?_
                  rintro e w9 ⟨rfl, hk9⟩
                  have HS9 : Hid (Sess w w9 gs gr w1.heap.size (sndAt A1 c1 ys (segs ys) m true) ⟨127, 1, 0, ansF m 127, V, pads ys (segs ys), 0⟩) := Lib.hid (by
                    have h := HS8.out.new hk9.out
                    unfold sndAt at h
                    simp only [HE.out] at h
                    exact h)
                  have HF9 := Lib.hid (HF8.out.new hk9.out)
                  clear hk9
                  go_wp2_with fail
                  go_roundg (1000 - (bl + 1))
                  case measure => rw [HQ.out]; omega
                  case rel => exact ⟨bl + 1, A8, c8, 1, p, SZ, rfl, by rw [← HNn.out]; omega, by go_num, rfl, sz0, sz1, .inr ⟨ansF m 127, V, m, rfl, HS9.out, HF9.out⟩⟩
        · obtain ⟨la0, V0, mm, rfl, hs0, hf0⟩ := hst
          obtain ⟨bq, oq, rfl, hbq, _⟩ := fr_at (j := 0) (f := endF ys) hf0.row rfl
          have HS0 := Lib.hid hs0
          have HF0 := Lib.hid hf0
          have HBase : Hid (w1.heap.size ≤ wo.heap.size) := Lib.hid hs0.rcv.bs
          clear hs0 hf0
          go_loopg [14, 15] 1 (fun q s14 s15 wi => ∃ i is, i ≤ 1 ∧ q = 1 - i ∧ s15 = .int .i64 (i : Nat) ∧ s14 = .bool is ∧ FrAt wi w.heap.size (some ⟨bq, oq, none⟩) 1 c [endF ys] ∧ ((i = 0 ∧ is = false ∧ Sess w wi gs gr w1.heap.size (sndAt A1 c1 ys (segs ys) mm true) ⟨127, 1, 0, la0, V0, pads ys (segs ys), 0⟩ ∧ Blk wi wo.heap.size (frameC fun _ => 0) 30) ∨ (i = 1 ∧ is = true ∧ ∃ V, Sess w wi gs gr w1.heap.size (sndAt A1 c1 ys (segs ys) mm true) ⟨127, 2, 0, la0, V, ys, 0⟩ ∧ Blk wi wo.heap.size #[.int .u8 161, .int .u8 0, .int .u8 0, .int .u8 0, .int .u8 0, .int .u8 0, .int .u8 0, .int .u8 0] 30)))
          case atStart => exact ⟨0, false, by omega, rfl, rfl, rfl, HF0.out.new ((Keep.refl Own.Zero wo).alloc _), .inl ⟨rfl, rfl, HS0.out.new ((Keep.refl Own.Zero wo).alloc _), Blk.new wo _ _⟩⟩
          case round =>
            obtain ⟨i, is, him, hqi, rfl, rfl, hfr, hwi⟩ := hrel
            have HQi := Lib.hid hqi
            have HFr := Lib.hid hfr
            clear hqi hfr
            rcases hwi with ⟨hi0, rfl, hs, hba⟩ | ⟨hi0, rfl, V, hs, hba⟩
            · have hi1 : (i : Int) < 1 := by omega
              have hsz1 : 1 ≤ SZ := sz0
              have hi2 : (i : Int) < (SZ : Int) := by omega
              have HS := Lib.hid hs
              have HBa := Lib.hid hba
              obtain ⟨F, hF⟩ : ∃ F, F = endF ys := ⟨_, rfl⟩
              have HFf := Lib.hid hF
              obtain ⟨b', o', hb', _, hz⟩ := fr_at (j := i) (f := endF ys) HFr.out.row (by rw [hi0]; rfl)
              cases hb'
              rw [← hF] at hz
              have x0 := hz 0 (by omega)
              have x1 := hz 1 (by omega)
              have x2 := hz 2 (by omega)
              have x3 := hz 3 (by omega)
              have x4 := hz 4 (by omega)
              have x5 := hz 5 (by omega)
              have x6 := hz 6 (by omega)
              have x7 := hz 7 (by omega)
              simp only [← Nat.add_assoc, Nat.add_zero] at x0 x1 x2 x3 x4 x5 x6 x7
              have HI0 := Lib.hid hi0
              clear hs hba hF hz hi0 hsz1
              go_wp2_with fail
              have hcall := feed_end HS.out.rcv HI.out.byte (by rw [← HN.out]; omega)
              rw [← HFf.out] at hcall
              refine hcall.mono ?_
              rintro e w6 ⟨rfl, V6, hp⟩
              have hl6 := HS.out.laid HBa.out HBase.out hp.out.1 hp.out.2
              have HS6 := Lib.hid hl6.1
              have HB6 := Lib.hid hl6.2
              have HKr := Lib.hid hp.out.2
              clear hcall hp hl6 x0 x1 x2 x3 x4 x5 x6 x7
              rw [show aggF (fun k => if k = 0 then 161 else 0) = .agg #[.int .u8 161, .int .u8 0, .int .u8 0, .int .u8 0, .int .u8 0, .int .u8 0, .int .u8 0, .int .u8 0] from rfl]
              have z0 := (HB6.out).cell 0
              have z1 := (HB6.out).cell 1
              have z2 := (HB6.out).cell 2
              have z3 := (HB6.out).cell 3
              have z4 := (HB6.out).cell 4
              have z5 := (HB6.out).cell 5
              have z6 := (HB6.out).cell 6
              have z7 := (HB6.out).cell 7
              have zf0 := (HB6.out).frozen 0
              have zf1 := (HB6.out).frozen 1
              have zf2 := (HB6.out).frozen 2
              have zf3 := (HB6.out).frozen 3
              have zf4 := (HB6.out).frozen 4
              have zf5 := (HB6.out).frozen 5
              have zf6 := (HB6.out).frozen 6
              have zf7 := (HB6.out).frozen 7
              simp only [frameC, List.getElem?_toArray, List.getElem?_cons_zero, List.getElem?_cons_succ] at z0 z1 z2 z3 z4 z5 z6 z7
              go_wp2_with fail
              have HK7 : Hid (Keep (Own.One wo.heap.size) w6 _) := Lib.hid (keep8 (Keep.refl (Own.One wo.heap.size) w6) (.inl rfl) (.int .u8 161) (.int .u8 0) (.int .u8 0) (.int .u8 0) (.int .u8 0) (.int .u8 0) (.int .u8 0) (.int .u8 0))
              have hfr7 := (HFr.out.rstep HS.out.rcv HKr.out).far (fun a ha => by cases ha; exact Nat.ne_of_lt hbq) HK7.out
              have hs7 := HS6.out.far HB6.out HBase.out HK7.out
              have hb7 := blk8 HB6.out (.int .u8 161) (.int .u8 0) (.int .u8 0) (.int .u8 0) (.int .u8 0) (.int .u8 0) (.int .u8 0) (.int .u8 0)
              go_roundg (1 - (i + 1))
              case measure => rw [HQi.out]; have := HI0.out; omega
              case rel => exact ⟨i + 1, true, by have := HI0.out; omega, rfl, by go_num, rfl, hfr7, .inr ⟨by rw [HI0.out], rfl, V6, hs7, hb7⟩⟩
            · have hnl : ¬ (i : Int) < 1 := by omega
              have HS := Lib.hid hs
              have HBa := Lib.hid hba
              clear hs hba hi0
              have z0 := (HBa.out).cell 0
              have z1 := (HBa.out).cell 1
              have z2 := (HBa.out).cell 2
              have z3 := (HBa.out).cell 3
              have z4 := (HBa.out).cell 4
              have z5 := (HBa.out).cell 5
              have z6 := (HBa.out).cell 6
              have z7 := (HBa.out).cell 7
              have zf0 := (HBa.out).frozen 0
              have zf1 := (HBa.out).frozen 1
              have zf2 := (HBa.out).frozen 2
              have zf3 := (HBa.out).frozen 3
              have zf4 := (HBa.out).frozen 4
              have zf5 := (HBa.out).frozen 5
              have zf6 := (HBa.out).frozen 6
              have zf7 := (HBa.out).frozen 7
              simp only [List.getElem?_toArray, List.getElem?_cons_zero, List.getElem?_cons_succ] at z0 z1 z2 z3 z4 z5 z6 z7
              go_wp2_with fail
              refine (Feed_taken HS.out.snd rfl rfl rfl 0 0 0 0 0 0 0).mono ?_
              rintro e w8 ⟨rfl, hp8⟩
              have HS8 := Lib.hid (HS.out.sstep hp8.out.1 rfl hp8.out.2)
              clear hp8 z0 z1 z2 z3 z4 z5 z6 z7 zf0 zf1 zf2 zf3 zf4 zf5 zf6 zf7
              go_wp2_with fail
              refine (SDone_is HS8.out.snd).mono ?_
              rintro e w9 ⟨rfl, hk9⟩
              have HS9 := Lib.hid (HS8.out.new hk9.out)
              clear hk9
              rw [show (sndAt A1 c1 ys (segs ys) mm true).code = 0 from rfl]
              go_wp2_with fail
              refine (RDone_over HS9.out.rcv rfl).mono ?_
              rintro e w10 ⟨A10, c10, rfl, hp10⟩
              have HGot := Lib.hid hp10.out.1
              have HK10 : Hid (Keep Own.Zero w w10) := Lib.hid (HS9.out.keep.trans hp10.out.2 (fun _ h => h.elim))
              have HB10 : Hid (Row w10 A (ints .u8 ys)) := Lib.hid (HI.out.row.keep HK10.out (fun _ _ _ => id))
              clear hp10
              have hs1 : Sem.run Try.prog (convert 22 9 (.slice A10 n c10)) w10 = .ok (.string (str ys)) w10 := run_str under22 under5 under9 HGot.out.row n HN.out
              have hs2 : Sem.run Try.prog (convert 22 9 (.slice A n cA)) w10 = .ok (.string (str ys)) w10 := run_str under22 under5 under9 HB10.out n HN.out
              rw [show (⟨127, 2, 0, la0, V, ys, 0⟩ : Rcv).xs = ys from rfl, show (⟨127, 2, 0, la0, V, ys, 0⟩ : Rcv).code = 0 from rfl, ← HN.out]
              go_wp2_with ((with_reducible refine (lives_is _).mono ?_); rintro e w11 ⟨rfl, hk11⟩)
              go_ret
              exact ⟨rfl, HK10.out.trans hk11.out (fun _ h => h.elim)⟩
  · have hl2 : ¬ (3000 : Int) < (m : Int) := by omega
    obtain ⟨ys, hys⟩ : ∃ ys, ys = xs := ⟨_, rfl⟩
    obtain ⟨n, hn⟩ : ∃ n : Nat, n = m := ⟨_, rfl⟩
    have HI : Hid (In w A cA ys) := Lib.hid (by rw [hys]; exact h)
    have HN : Hid (n = ys.length) := Lib.hid (by rw [hys, hn]; exact hm)
    rw [← hn] at hl2 ⊢
    have hnb : n ≤ 3000 := by omega
    clear h hB hm hys hn
    go_enter Try.func6, Try.ntmps6
    have HR1 : Hid (Row (w.alloc (.cells #[] 5)) A (ints .u8 ys)) := Lib.hid (HI.out.row.keep ((Keep.refl Own.Zero w).alloc (.cells #[] 5)) (fun _ _ _ => id))
    go_wp2_with (at_builtin; refine app_own rfl (.tmp 27) (.tmp 28) 22 rfl w.heap.size 5 (.int .u8 0) 1 1 under22 info5 rfl (by decide) (.slice (some ⟨w.heap.size, 0, none⟩) 0 0) 0 [] rfl (own_empty 1 (Blk.new w _ _)) A n cA (ints .u8 ys) rfl (by rw [ints_length, HN.out]; omega) HI.out.nil HR1.out (ints_one _ _) (by unfold maxLen; omega) (by omega) (by simp) ?_; intro v2 w2 hown2 hgr2)
    have HO2 : Hid (w2.ownsRow w.heap.size 5 1 v2 n (ints .u8 ys)) := Lib.hid (by have h := hown2; rw [Nat.zero_add, List.nil_append] at h; exact h)
    have HK2 : Hid (Keep Own.Zero w w2) := Lib.hid (((Keep.refl Own.Zero w).alloc _).grown hgr2 (fun k hk => .inr (by cases hk; exact Nat.le_refl _)))
    clear hown2 hgr2
    obtain ⟨A2, c2, rfl, hi2, _⟩ := own_in HO2.out HN.out HI.out.byte
    have HI2 := Lib.hid hi2
    clear hi2
    go_wp2_with fail
    refine (NewSender_ok HI2.out (by rw [← HN.out]; omega) n HN.out).mono ?_
    rintro e w1 ⟨gs, A1, c1, rfl, hp1⟩
    have HP1 := hp1
    have HA1 : Hid (∀ a, A1 = some a → a.block < w1.heap.size) := Lib.hid (fun a ha => (HP1.out.2.2.2 a ha).2)
    clear hp1
    go_wp2_with fail
    refine (NewReceiver_ok w1 127 (by decide) (by decide)).mono ?_
    rintro e w3 ⟨gr, rfl, hp2⟩
    have HP2 := hp2
    clear hp2
    go_wp2_with fail
    refine (Begin_ok (HP1.out.1.keep HP2.out.2.1 id (fun _ _ => id)) rfl rfl 127 (by decide) (by decide) _ rfl).mono ?_
    rintro e w5 ⟨A5, c5, rfl, hp3⟩
    have HD5 : Hid (DataSt w w5 gs gr w1.heap.size A1 c1 ys 127 0 (min 127 (segs ys)) A5 c5) := Lib.hid (by
      have hS2 : Sess w w3 gs gr w1.heap.size ⟨A1, c1, ys, 0, 0, false, false, false, 0⟩ (rAt 127 0 0 ys (fun _ => 0) (.slice none 0 0)) :=
        ⟨HP1.out.1.keep HP2.out.2.1 id (fun _ _ => id), HP2.out.1, HP1.out.1.blk.lt, HA1.out, HP2.out.2.2, (HK2.out.trans HP1.out.2.1 (fun _ h => h.elim)).trans HP2.out.2.1 (fun _ h => h.elim), Nat.le_trans HK2.out.size HP1.out.2.2.1⟩
      exact ⟨_, _, hS2.sstep hp3.out.1 rfl hp3.out.2.2, own_mono hp3.out.2.1 hS2.keep.size, (segs_bound ys).2.2⟩)
    clear HP1 HP2 hp3 HA1 HO2 HI2
    obtain ⟨m0, hm0⟩ : ∃ m0, m0 = min 127 (segs ys) := ⟨_, rfl⟩
    rw [show (⟨A1, c1, ys, 0, 0, false, false, false, 0⟩ : Snd).bs = ys from rfl, ← hm0]
    rw [← hm0] at HD5
    have HM0 := Lib.hid hm0
    clear hm0
    go_wp2_with fail
    go_loopg [9, 11] 1000 (fun q s9 s11 wr => ∃ bl Af c m p kp, q = 1000 - bl ∧ bl ≤ segs ys ∧ s11 = .int .i64 (bl : Nat) ∧ s9 = .slice Af m c ∧ 1 ≤ kp ∧ kp ≤ 127 ∧
      ((DataSt w wr gs gr w1.heap.size A1 c1 ys 127 p m Af c ∧ bl ≤ p ∧ m = min kp (segs ys - p)) ∨ EndSt w wr gs gr w1.heap.size A1 c1 ys 127 m Af c))
    case atStart => exact ⟨0, A5, c5, m0, 0, 127, rfl, Nat.zero_le _, rfl, rfl, by decide, by decide, .inl ⟨HD5.out, Nat.le_refl _, HM0.out⟩⟩
    case round =>
      obtain ⟨bl, Af, c, m, p, kp, hq, hb2, rfl, rfl, kp0, kp1, hst⟩ := hrel
      have HQ := Lib.hid hq
      have sb := segs_bound ys
      rw [← HN.out] at sb
      obtain ⟨N, hN⟩ : ∃ N, N = segs ys := ⟨_, rfl⟩
      rw [← hN] at hb2 sb
      have hNb : N ≤ 430 := by omega
      have HNn := Lib.hid hN
      have hlt : (bl : Int) < 1000 := by omega
      clear hq hN sb
      obtain ⟨wo, hwo⟩ : ∃ x, x = wr := ⟨_, rfl⟩
      subst hwo
      by_cases hK0 : K = 0
      · have hK9 : ¬ 0 < K := by omega
        have HK0 := Lib.hid hK0
        clear hK0
        go_wp2_with fail
        rcases hst with ⟨hst, hbp, hm⟩ | hst
        · obtain ⟨la0, V0, hs0, hf0, hpN⟩ := hst
          rw [← HNn.out] at hpN hm
          have hm1 : 1 ≤ m := by omega
          have hmk : m ≤ 127 := by omega
          have hmN : p + m ≤ N := by omega
          obtain ⟨bq, oq, rfl, hbq, _⟩ := fr_at hf0.row (framesF_get (bs := ys) (p := p) (show 0 < m by omega))
          have HS0 := Lib.hid hs0
          have HF0 := Lib.hid hf0
          have HMm := Lib.hid hm
          have HBase : Hid (w1.heap.size ≤ wo.heap.size) := Lib.hid hs0.rcv.bs
          clear hs0 hf0 hm
          go_loopg [14, 15] m (fun q s14 s15 wi => ∃ i is, i ≤ m ∧ q = m - i ∧ s15 = .int .i64 (i : Nat) ∧ s14 = .bool is ∧ FrAt wi w.heap.size (some ⟨bq, oq, none⟩) m c (framesF ys p m) ∧ Within w wi gs gr w1.heap.size A1 c1 ys 127 p m i wo.heap.size is)
          case atStart => exact ⟨0, false, Nat.zero_le _, rfl, rfl, rfl, HF0.out.new ((Keep.refl Own.Zero wo).alloc _), .inl ⟨0, la0, V0, fun _ => 0, rfl, Nat.le_refl _, (fun h => by omega), by rw [← HNn.out]; exact hpN, HS0.out.new ((Keep.refl Own.Zero wo).alloc _), Blk.new wo _ _⟩⟩
          case round =>
            obtain ⟨i, is, him, hqi, rfl, rfl, hfr, hwi⟩ := hrel
            have HQi := Lib.hid hqi
            have HFr := Lib.hid hfr
            clear hqi hfr
            by_cases hilt : i < m ∧ i < 127
            · obtain ⟨hilt, hisz⟩ := hilt
              have hi1 : (i : Int) < (m : Int) := by omega
              have hi2 : (i : Int) < 127 := by omega
              have hi0 : (0 : Int) ≤ (i : Int) := by omega
              rcases hwi with ⟨c', la, V, G, rfl, hci, hc0, hcN, hs, hba⟩ | ⟨V, rfl, h2, _⟩
              · have HS := Lib.hid hs
                have HBa := Lib.hid hba
                rw [← HNn.out] at hcN
                obtain ⟨F, hF⟩ : ∃ F, F = segF ys (p + i) i := ⟨_, rfl⟩
                have HFf := Lib.hid hF
                obtain ⟨b', o', hb', _, hz⟩ := fr_at HFr.out.row (framesF_get (bs := ys) (p := p) hilt)
                cases hb'
                rw [← hF] at hz
                have x0 := hz 0 (by omega)
                have x1 := hz 1 (by omega)
                have x2 := hz 2 (by omega)
                have x3 := hz 3 (by omega)
                have x4 := hz 4 (by omega)
                have x5 := hz 5 (by omega)
                have x6 := hz 6 (by omega)
                have x7 := hz 7 (by omega)
                simp only [← Nat.add_assoc, Nat.add_zero] at x0 x1 x2 x3 x4 x5 x6 x7
                clear hs hba hF hz
                go_wp2_with fail
                by_cases hci2 : c' = i
                · have hci3 := hci2.symm
                  subst hci3
                  rw [HNn.out] at hcN
                  have hcall := feed_next HS.out.rcv HI.out.byte (by rw [← HN.out]; omega) (by omega) hcN
                  rw [← HFf.out] at hcall
                  refine hcall.mono ?_
                  rintro e w6 (⟨hc9, rfl, V6, hp⟩ | ⟨hc9, rfl, V6, hp⟩)
                  · have hl6 := HS.out.laid HBa.out HBase.out hp.out.1 hp.out.2
                    have him1 : i + 1 = m := by have := HMm.out; have := HNn.out; omega
                    rw [him1] at hl6
                    have HS6 := Lib.hid hl6.1
                    have HB6 := Lib.hid hl6.2
                    have HKr := Lib.hid hp.out.2
                    have HHc := Lib.hid hc9
                    clear hcall hp hl6 hc9
                    rw [aggF_ans]
                    have z0 := (HB6.out).cell 0
                    have z1 := (HB6.out).cell 1
                    have z2 := (HB6.out).cell 2
                    have z3 := (HB6.out).cell 3
                    have z4 := (HB6.out).cell 4
                    have z5 := (HB6.out).cell 5
                    have z6 := (HB6.out).cell 6
                    have z7 := (HB6.out).cell 7
                    have zf0 := (HB6.out).frozen 0
                    have zf1 := (HB6.out).frozen 1
                    have zf2 := (HB6.out).frozen 2
                    have zf3 := (HB6.out).frozen 3
                    have zf4 := (HB6.out).frozen 4
                    have zf5 := (HB6.out).frozen 5
                    have zf6 := (HB6.out).frozen 6
                    have zf7 := (HB6.out).frozen 7
                    simp only [frameC, List.getElem?_toArray, List.getElem?_cons_zero, List.getElem?_cons_succ] at z0 z1 z2 z3 z4 z5 z6 z7
                    clear x0 x1 x2 x3 x4 x5 x6 x7
                    go_wp2_with fail
                    have HK7 : Hid (Keep (Own.One wo.heap.size) w6 _) := Lib.hid (keep8 (Keep.refl (Own.One wo.heap.size) w6) (.inl rfl) (.int .u8 162) (.int .u8 m) (.int .u8 127) (.int .u8 0) (.int .u8 0) (.int .u8 0) (.int .u8 0) (.int .u8 0))
                    have hfr7 := (HFr.out.rstep HS.out.rcv HKr.out).far (fun a ha => by cases ha; exact Nat.ne_of_lt hbq) HK7.out
                    have hs7 := HS6.out.far HB6.out HBase.out HK7.out
                    have hb7 := blk8 HB6.out (.int .u8 162) (.int .u8 m) (.int .u8 127) (.int .u8 0) (.int .u8 0) (.int .u8 0) (.int .u8 0) (.int .u8 0)
                    go_roundg (m - (i + 1))
                    case measure => rw [HQi.out]; omega
                    case rel => exact ⟨i + 1, true, hilt, rfl, by go_num, rfl, hfr7, .inr ⟨V6, rfl, him1, by rw [← HNn.out]; omega, hs7, hb7⟩⟩
                  · have hl6 := HS.out.laid HBa.out HBase.out hp.out.1 hp.out.2
                    have HS6 := Lib.hid hl6.1
                    have HB6 := Lib.hid hl6.2
                    have HKr := Lib.hid hp.out.2
                    have hlt6 : p + (i + 1) < segs ys := by omega
                    clear hcall hp hl6 hc9
                    rw [aggF_0]
                    have z0 := (HB6.out).cell 0
                    have z1 := (HB6.out).cell 1
                    have z2 := (HB6.out).cell 2
                    have z3 := (HB6.out).cell 3
                    have z4 := (HB6.out).cell 4
                    have z5 := (HB6.out).cell 5
                    have z6 := (HB6.out).cell 6
                    have z7 := (HB6.out).cell 7
                    have zf0 := (HB6.out).frozen 0
                    have zf1 := (HB6.out).frozen 1
                    have zf2 := (HB6.out).frozen 2
                    have zf3 := (HB6.out).frozen 3
                    have zf4 := (HB6.out).frozen 4
                    have zf5 := (HB6.out).frozen 5
                    have zf6 := (HB6.out).frozen 6
                    have zf7 := (HB6.out).frozen 7
                    simp only [frameC, List.getElem?_toArray, List.getElem?_cons_zero, List.getElem?_cons_succ] at z0 z1 z2 z3 z4 z5 z6 z7
                    clear x0 x1 x2 x3 x4 x5 x6 x7
                    go_wp2_with fail
                    have HK7 : Hid (Keep (Own.One wo.heap.size) w6 _) := Lib.hid (keep8 (Keep.refl (Own.One wo.heap.size) w6) (.inl rfl) (.int .u8 0) (.int .u8 0) (.int .u8 0) (.int .u8 0) (.int .u8 0) (.int .u8 0) (.int .u8 0) (.int .u8 0))
                    have hfr7 := (HFr.out.rstep HS.out.rcv HKr.out).far (fun a ha => by cases ha; exact Nat.ne_of_lt hbq) HK7.out
                    have hs7 := HS6.out.far HB6.out HBase.out HK7.out
                    have hb7 := blk8 HB6.out (.int .u8 0) (.int .u8 0) (.int .u8 0) (.int .u8 0) (.int .u8 0) (.int .u8 0) (.int .u8 0) (.int .u8 0)
                    go_roundg (m - (i + 1))
                    case measure => rw [HQi.out]; omega
                    case rel => exact ⟨i + 1, false, hilt, rfl, by go_num, rfl, hfr7, .inl ⟨i + 1, la, V6, fun _ => 0, rfl, Nat.le_refl _, (fun _ => by omega), hlt6, hs7, hb7⟩⟩
                · have hcall := feed_skip (i := i) HS.out.rcv (by omega) hci2
                  rw [← HFf.out] at hcall
                  refine hcall.mono ?_
                  rintro e w6 ⟨rfl, V6, hp⟩
                  have hl6 := HS.out.laid HBa.out HBase.out hp.out.1 hp.out.2
                  have HS6 := Lib.hid hl6.1
                  have HB6 := Lib.hid hl6.2
                  have HKr := Lib.hid hp.out.2
                  clear hcall hp hl6
                  rw [aggF_0]
                  have z0 := (HB6.out).cell 0
                  have z1 := (HB6.out).cell 1
                  have z2 := (HB6.out).cell 2
                  have z3 := (HB6.out).cell 3
                  have z4 := (HB6.out).cell 4
                  have z5 := (HB6.out).cell 5
                  have z6 := (HB6.out).cell 6
                  have z7 := (HB6.out).cell 7
                  have zf0 := (HB6.out).frozen 0
                  have zf1 := (HB6.out).frozen 1
                  have zf2 := (HB6.out).frozen 2
                  have zf3 := (HB6.out).frozen 3
                  have zf4 := (HB6.out).frozen 4
                  have zf5 := (HB6.out).frozen 5
                  have zf6 := (HB6.out).frozen 6
                  have zf7 := (HB6.out).frozen 7
                  simp only [frameC, List.getElem?_toArray, List.getElem?_cons_zero, List.getElem?_cons_succ] at z0 z1 z2 z3 z4 z5 z6 z7
                  clear x0 x1 x2 x3 x4 x5 x6 x7
                  go_wp2_with fail
                  have HK7 : Hid (Keep (Own.One wo.heap.size) w6 _) := Lib.hid (keep8 (Keep.refl (Own.One wo.heap.size) w6) (.inl rfl) (.int .u8 0) (.int .u8 0) (.int .u8 0) (.int .u8 0) (.int .u8 0) (.int .u8 0) (.int .u8 0) (.int .u8 0))
                  have hfr7 := (HFr.out.rstep HS.out.rcv HKr.out).far (fun a ha => by cases ha; exact Nat.ne_of_lt hbq) HK7.out
                  have hs7 := HS6.out.far HB6.out HBase.out HK7.out
                  have hb7 := blk8 HB6.out (.int .u8 0) (.int .u8 0) (.int .u8 0) (.int .u8 0) (.int .u8 0) (.int .u8 0) (.int .u8 0) (.int .u8 0)
                  go_roundg (m - (i + 1))
                  case measure => rw [HQi.out]; omega
                  case rel => exact ⟨i + 1, false, hilt, rfl, by go_num, rfl, hfr7, .inl ⟨c', la, V6, fun _ => 0, rfl, by omega, (fun _ => by omega), by rw [← HNn.out]; exact hcN, hs7, hb7⟩⟩
              · omega
            · rcases hwi with ⟨c', la, V, G, rfl, hci, hc0, hcN, hs, hba⟩ | ⟨V, rfl, him2, h2, hs, hba⟩
              · have HS := Lib.hid hs
                have HBa := Lib.hid hba
                have HC0 := Lib.hid (show 0 < c' from hc0 (by omega))
                have HCN := Lib.hid hcN
                have HCi : Hid (c' ≤ m) := Lib.hid (by omega)
                have HC127 : Hid (c' ≤ 127) := Lib.hid (by omega)
                clear hs hba hc0 hcN hci
                by_cases hie : i < m
                · have hn1 : (i : Int) < (m : Int) := by omega
                  have hn2 : ¬ (i : Int) < 127 := by omega
                  clear hilt
                  first
                    | (exfalso; omega)
                    | (go_wp2_with fail
                       refine (Ask_0 HS.out.rcv rfl).mono ?_
                       rintro e w6 ⟨rfl, hp⟩
                       have hl6 := HS.out.laid HBa.out HBase.out hp.out.1 (hp.out.2.mono (fun k hk => .inl hk))
                       have HS6 : Hid (Sess w w6 gs gr w1.heap.size (sndAt A1 c1 ys p m false) (rAt 127 (p + c') 0 ys (ansF c' 127) V)) := Lib.hid hl6.1
                       have HB6 := Lib.hid hl6.2
                       clear hp hl6
                       rw [aggF_ans]
                       go_wp2_with (refine wpList_store_row rfl 30 (.tmp 13) (.tmp 99) rfl wo.heap.size #[.int .u8 162, .int .u8 c', .int .u8 127, .int .u8 0, .int .u8 0, .int .u8 0, .int .u8 0, .int .u8 0] rfl rfl 30 (frameC G) HB6.out size30' rfl (by simp [Value.oneCell']) ?_; obtain ⟨W7, hW7⟩ : ∃ x, x = w6.setRow wo.heap.size #[.int .u8 162, .int .u8 c', .int .u8 127, .int .u8 0, .int .u8 0, .int .u8 0, .int .u8 0, .int .u8 0] := ⟨_, rfl⟩; have HB7 : Hid (Blk W7 wo.heap.size #[.int .u8 162, .int .u8 c', .int .u8 127, .int .u8 0, .int .u8 0, .int .u8 0, .int .u8 0, .int .u8 0] 30) := Lib.hid (by rw [hW7]; exact setRow_blk HB6.out _); have HK7 : Hid (Keep (Own.One wo.heap.size) w6 W7) := Lib.hid (by rw [hW7]; exact setRow_keep _ _ _); rw [← hW7]; clear hW7; have z0 : W7.cell? ⟨wo.heap.size, 0, none⟩ = some (.int .u8 162) := HB7.out.cell 0; have z1 : W7.cell? ⟨wo.heap.size, 1, none⟩ = some (.int .u8 c') := HB7.out.cell 1; have z2 : W7.cell? ⟨wo.heap.size, 2, none⟩ = some (.int .u8 127) := HB7.out.cell 2; have z3 : W7.cell? ⟨wo.heap.size, 3, none⟩ = some (.int .u8 0) := HB7.out.cell 3; have z4 : W7.cell? ⟨wo.heap.size, 4, none⟩ = some (.int .u8 0) := HB7.out.cell 4; have z5 : W7.cell? ⟨wo.heap.size, 5, none⟩ = some (.int .u8 0) := HB7.out.cell 5; have z6 : W7.cell? ⟨wo.heap.size, 6, none⟩ = some (.int .u8 0) := HB7.out.cell 6; have z7 : W7.cell? ⟨wo.heap.size, 7, none⟩ = some (.int .u8 0) := HB7.out.cell 7; have zf2 : W7.frozen? ⟨wo.heap.size, 2, none⟩ = false := HB7.out.frozen 2)
                       have HS7 := Lib.hid (HS6.out.far HB6.out HBase.out (HK7.out.set1 2 (.int .u8 127)))
                       refine (Feed_more (HS7.out).snd rfl rfl rfl c' 127 0 0 0 0 0 HCi.out HC127.out (by decide) (by decide) HCN.out _ rfl).mono ?_
                       rintro e w8 ⟨A8, c8, rfl, hp8⟩
                       have HS8 := Lib.hid ((HS7.out).sstep hp8.out.1 rfl hp8.out.2.2)
                       have HF8 := Lib.hid (own_mono hp8.out.2.1 (HS7.out).keep.size)
                       clear hp8
                       obtain ⟨m8, hm8⟩ : ∃ m8, m8 = min 127 (segs ys - (p + c')) := ⟨_, rfl⟩
                       have HM8 := Lib.hid hm8
                       have HS8b : Hid (Sess w w8 gs gr w1.heap.size (sndAt A1 c1 ys (p + c') m8 false) (rAt 127 (p + c') 0 ys (ansF c' 127) V)) := Lib.hid (by rw [hm8]; exact HS8.out)
                       have HF8b : Hid (FrAt w8 w.heap.size A8 m8 c8 (framesF ys (p + c') m8)) := Lib.hid (by rw [hm8]; exact HF8.out)
                       rw [show (sndAt A1 c1 ys p m false).at' = p from rfl, show (sndAt A1 c1 ys p m false).bs = ys from rfl, ← hm8]
                       clear HS8 HF8 hm8
                       go_wp2_with fail
                       refine (SDone_is HS8b.out.snd).mono ?_
                       rintro e w9 ⟨rfl, hk9⟩
                       have HS9 := Lib.hid (HS8b.out.new hk9.out)
                       have HF9 := Lib.hid (HF8b.out.new hk9.out)
                       clear hk9
                       go_wp2_with fail
                       go_roundg (1000 - (bl + 1))
                       case measure => rw [HQ.out]; omega
                       case rel => exact ⟨bl + 1, A8, c8, m8, p + c', 127, rfl, by have := HCN.out; have := HC0.out; omega, by go_num, rfl, (by decide), (by decide), .inl ⟨⟨ansF c' 127, V, HS9.out, HF9.out, HCN.out⟩, by have := HC0.out; omega, HM8.out⟩⟩
                      )
                · clear hilt
                  have him2 : m = i := by omega
                  subst him2
                  have hn1 : ¬ (m : Int) < (m : Int) := by omega
                  clear hie
                  go_wp2_with fail
                  refine (Ask_0 HS.out.rcv rfl).mono ?_
                  rintro e w6 ⟨rfl, hp⟩
                  have hl6 := HS.out.laid HBa.out HBase.out hp.out.1 (hp.out.2.mono (fun k hk => .inl hk))
                  have HS6 : Hid (Sess w w6 gs gr w1.heap.size (sndAt A1 c1 ys p m false) (rAt 127 (p + c') 0 ys (ansF c' 127) V)) := Lib.hid hl6.1
                  have HB6 := Lib.hid hl6.2
                  clear hp hl6
                  rw [aggF_ans]
                  go_wp2_with (refine wpList_store_row rfl 30 (.tmp 13) (.tmp 99) rfl wo.heap.size #[.int .u8 162, .int .u8 c', .int .u8 127, .int .u8 0, .int .u8 0, .int .u8 0, .int .u8 0, .int .u8 0] rfl rfl 30 (frameC G) HB6.out size30' rfl (by simp [Value.oneCell']) ?_; obtain ⟨W7, hW7⟩ : ∃ x, x = w6.setRow wo.heap.size #[.int .u8 162, .int .u8 c', .int .u8 127, .int .u8 0, .int .u8 0, .int .u8 0, .int .u8 0, .int .u8 0] := ⟨_, rfl⟩; have HB7 : Hid (Blk W7 wo.heap.size #[.int .u8 162, .int .u8 c', .int .u8 127, .int .u8 0, .int .u8 0, .int .u8 0, .int .u8 0, .int .u8 0] 30) := Lib.hid (by rw [hW7]; exact setRow_blk HB6.out _); have HK7 : Hid (Keep (Own.One wo.heap.size) w6 W7) := Lib.hid (by rw [hW7]; exact setRow_keep _ _ _); rw [← hW7]; clear hW7; have z0 : W7.cell? ⟨wo.heap.size, 0, none⟩ = some (.int .u8 162) := HB7.out.cell 0; have z1 : W7.cell? ⟨wo.heap.size, 1, none⟩ = some (.int .u8 c') := HB7.out.cell 1; have z2 : W7.cell? ⟨wo.heap.size, 2, none⟩ = some (.int .u8 127) := HB7.out.cell 2; have z3 : W7.cell? ⟨wo.heap.size, 3, none⟩ = some (.int .u8 0) := HB7.out.cell 3; have z4 : W7.cell? ⟨wo.heap.size, 4, none⟩ = some (.int .u8 0) := HB7.out.cell 4; have z5 : W7.cell? ⟨wo.heap.size, 5, none⟩ = some (.int .u8 0) := HB7.out.cell 5; have z6 : W7.cell? ⟨wo.heap.size, 6, none⟩ = some (.int .u8 0) := HB7.out.cell 6; have z7 : W7.cell? ⟨wo.heap.size, 7, none⟩ = some (.int .u8 0) := HB7.out.cell 7; have zf2 : W7.frozen? ⟨wo.heap.size, 2, none⟩ = false := HB7.out.frozen 2)
                  have HS7 := Lib.hid (HS6.out.far HB6.out HBase.out (HK7.out.set1 2 (.int .u8 127)))
                  refine (Feed_more (HS7.out).snd rfl rfl rfl c' 127 0 0 0 0 0 HCi.out HC127.out (by decide) (by decide) HCN.out _ rfl).mono ?_
                  rintro e w8 ⟨A8, c8, rfl, hp8⟩
                  have HS8 := Lib.hid ((HS7.out).sstep hp8.out.1 rfl hp8.out.2.2)
                  have HF8 := Lib.hid (own_mono hp8.out.2.1 (HS7.out).keep.size)
                  clear hp8
                  obtain ⟨m8, hm8⟩ : ∃ m8, m8 = min 127 (segs ys - (p + c')) := ⟨_, rfl⟩
                  have HM8 := Lib.hid hm8
                  have HS8b : Hid (Sess w w8 gs gr w1.heap.size (sndAt A1 c1 ys (p + c') m8 false) (rAt 127 (p + c') 0 ys (ansF c' 127) V)) := Lib.hid (by rw [hm8]; exact HS8.out)
                  have HF8b : Hid (FrAt w8 w.heap.size A8 m8 c8 (framesF ys (p + c') m8)) := Lib.hid (by rw [hm8]; exact HF8.out)
                  rw [show (sndAt A1 c1 ys p m false).at' = p from rfl, show (sndAt A1 c1 ys p m false).bs = ys from rfl, ← hm8]
                  clear HS8 HF8 hm8
                  go_wp2_with fail
                  refine (SDone_is HS8b.out.snd).mono ?_
                  rintro e w9 ⟨rfl, hk9⟩
                  have HS9 := Lib.hid (HS8b.out.new hk9.out)
                  have HF9 := Lib.hid (HF8b.out.new hk9.out)
                  clear hk9
                  go_wp2_with fail
                  go_roundg (1000 - (bl + 1))
                  case measure => rw [HQ.out]; omega
                  case rel => exact ⟨bl + 1, A8, c8, m8, p + c', 127, rfl, by have := HCN.out; have := HC0.out; omega, by go_num, rfl, (by decide), (by decide), .inl ⟨⟨ansF c' 127, V, HS9.out, HF9.out, HCN.out⟩, by have := HC0.out; omega, HM8.out⟩⟩
              · have HIm := Lib.hid him2
                have HS := Lib.hid hs
                have HBa : Hid (Blk wr wo.heap.size #[.int .u8 162, .int .u8 m, .int .u8 127, .int .u8 0, .int .u8 0, .int .u8 0, .int .u8 0, .int .u8 0] 30) := Lib.hid hba
                have HH2 := Lib.hid h2
                have HCi : Hid (m ≤ m) := Lib.hid (Nat.le_refl _)
                have HC0 : Hid (0 < m) := Lib.hid (by omega)
                have HC127 : Hid (m ≤ 127) := Lib.hid (by omega)
                clear hs hba h2 hilt
                have him3 := him2.symm
                subst him3
                have hn1 : ¬ (m : Int) < (m : Int) := by omega
                have z0 := (HBa.out).cell 0
                have z1 := (HBa.out).cell 1
                have z2 := (HBa.out).cell 2
                have z3 := (HBa.out).cell 3
                have z4 := (HBa.out).cell 4
                have z5 := (HBa.out).cell 5
                have z6 := (HBa.out).cell 6
                have z7 := (HBa.out).cell 7
                have zf0 := (HBa.out).frozen 0
                have zf1 := (HBa.out).frozen 1
                have zf2 := (HBa.out).frozen 2
                have zf3 := (HBa.out).frozen 3
                have zf4 := (HBa.out).frozen 4
                have zf5 := (HBa.out).frozen 5
                have zf6 := (HBa.out).frozen 6
                have zf7 := (HBa.out).frozen 7
                simp only [List.getElem?_toArray, List.getElem?_cons_zero, List.getElem?_cons_succ] at z0 z1 z2 z3 z4 z5 z6 z7
                have HKs : Hid (Keep (Own.One wo.heap.size) wr (wr.setCell ⟨wo.heap.size, 2, none⟩ (.int .u8 127))) := Lib.hid ((Keep.refl (Own.One wo.heap.size) wr).set1 2 _)
                by_cases hpm : p + m < segs ys
                · have HCN := Lib.hid hpm
                  have HS7 : Hid (Sess w (wr.setCell ⟨wo.heap.size, 2, none⟩ (.int .u8 127)) gs gr w1.heap.size (sndAt A1 c1 ys p m false) (rAt 127 (p + m) 0 ys (ansF m 127) V)) := Lib.hid (by
                    have h := HS.out
                    unfold rAns at h
                    rw [if_neg (by omega)] at h
                    exact h.far HBa.out HBase.out HKs.out)
                  clear hpm
                  go_wp2_with fail
                  refine (Feed_more (HS7.out).snd rfl rfl rfl m 127 0 0 0 0 0 HCi.out HC127.out (by decide) (by decide) HCN.out _ rfl).mono ?_
                  rintro e w8 ⟨A8, c8, rfl, hp8⟩
                  have HS8 := Lib.hid ((HS7.out).sstep hp8.out.1 rfl hp8.out.2.2)
                  have HF8 := Lib.hid (own_mono hp8.out.2.1 (HS7.out).keep.size)
                  clear hp8
                  obtain ⟨m8, hm8⟩ : ∃ m8, m8 = min 127 (segs ys - (p + m)) := ⟨_, rfl⟩
                  have HM8 := Lib.hid hm8
                  have HS8b : Hid (Sess w w8 gs gr w1.heap.size (sndAt A1 c1 ys (p + m) m8 false) (rAt 127 (p + m) 0 ys (ansF m 127) V)) := Lib.hid (by rw [hm8]; exact HS8.out)
                  have HF8b : Hid (FrAt w8 w.heap.size A8 m8 c8 (framesF ys (p + m) m8)) := Lib.hid (by rw [hm8]; exact HF8.out)
                  rw [show (sndAt A1 c1 ys p m false).at' = p from rfl, show (sndAt A1 c1 ys p m false).bs = ys from rfl, ← hm8]
                  clear HS8 HF8 hm8
                  go_wp2_with fail
                  refine (SDone_is HS8b.out.snd).mono ?_
                  rintro e w9 ⟨rfl, hk9⟩
                  have HS9 := Lib.hid (HS8b.out.new hk9.out)
                  have HF9 := Lib.hid (HF8b.out.new hk9.out)
                  clear hk9
                  go_wp2_with fail
                  go_roundg (1000 - (bl + 1))
                  case measure => rw [HQ.out]; omega
                  case rel => exact ⟨bl + 1, A8, c8, m8, p + m, 127, rfl, by have := HCN.out; have := HC0.out; omega, by go_num, rfl, (by decide), (by decide), .inl ⟨⟨ansF m 127, V, HS9.out, HF9.out, HCN.out⟩, by have := HC0.out; omega, HM8.out⟩⟩
                · have HE : Hid (p + m = segs ys) := Lib.hid (by have := HH2.out; omega)
                  have HS7 : Hid (Sess w (wr.setCell ⟨wo.heap.size, 2, none⟩ (.int .u8 127)) gs gr w1.heap.size (sndAt A1 c1 ys p m false) ⟨127, 1, 0, ansF m 127, V, pads ys (segs ys), 0⟩) := Lib.hid (by
                    have h := HS.out
                    unfold rAns at h
                    rw [if_pos HE.out, HE.out] at h
                    exact h.far HBa.out HBase.out HKs.out)
                  clear hpm
                  go_wp2_with fail
                  refine (Feed_end HS7.out.snd rfl rfl rfl m 127 0 0 0 0 0 (Nat.le_refl _) HC127.out (by decide) (by decide) HE.out).mono ?_
                  rintro e w8 ⟨A8, c8, rfl, hp8⟩
                  have HS8 := Lib.hid (HS7.out.sstep hp8.out.1 rfl hp8.out.2.2)
                  have HF8 : Hid (FrAt w8 w.heap.size A8 1 c8 [endF ys]) := Lib.hid (own_mono hp8.out.2.1 HS7.out.keep.size)
                  clear hp8
                  go_wp2_with fail
                  refine (SDone_is HS8.out.snd).mono ?_
                  rintro e w9 ⟨rfl, hk9⟩
                  have HS9 : Hid (Sess w w9 gs gr w1.heap.size (sndAt A1 c1 ys (segs ys) m true) ⟨127, 1, 0, ansF m 127, V, pads ys (segs ys), 0⟩) := Lib.hid (by
                    have h := HS8.out.new hk9.out
                    unfold sndAt at h
                    simp only [HE.out] at h
                    exact h)
                  have HF9 := Lib.hid (HF8.out.new hk9.out)
                  clear hk9
                  go_wp2_with fail
                  go_roundg (1000 - (bl + 1))
                  case measure => rw [HQ.out]; omega
                  case rel => exact ⟨bl + 1, A8, c8, 1, p, 127, rfl, by rw [← HNn.out]; omega, by go_num, rfl, (by decide), (by decide), .inr ⟨ansF m 127, V, m, rfl, HS9.out, HF9.out⟩⟩
        · obtain ⟨la0, V0, mm, rfl, hs0, hf0⟩ := hst
          obtain ⟨bq, oq, rfl, hbq, _⟩ := fr_at (j := 0) (f := endF ys) hf0.row rfl
          have HS0 := Lib.hid hs0
          have HF0 := Lib.hid hf0
          have HBase : Hid (w1.heap.size ≤ wo.heap.size) := Lib.hid hs0.rcv.bs
          clear hs0 hf0
          go_loopg [14, 15] 1 (fun q s14 s15 wi => ∃ i is, i ≤ 1 ∧ q = 1 - i ∧ s15 = .int .i64 (i : Nat) ∧ s14 = .bool is ∧ FrAt wi w.heap.size (some ⟨bq, oq, none⟩) 1 c [endF ys] ∧ ((i = 0 ∧ is = false ∧ Sess w wi gs gr w1.heap.size (sndAt A1 c1 ys (segs ys) mm true) ⟨127, 1, 0, la0, V0, pads ys (segs ys), 0⟩ ∧ Blk wi wo.heap.size (frameC fun _ => 0) 30) ∨ (i = 1 ∧ is = true ∧ ∃ V, Sess w wi gs gr w1.heap.size (sndAt A1 c1 ys (segs ys) mm true) ⟨127, 2, 0, la0, V, ys, 0⟩ ∧ Blk wi wo.heap.size #[.int .u8 161, .int .u8 0, .int .u8 0, .int .u8 0, .int .u8 0, .int .u8 0, .int .u8 0, .int .u8 0] 30)))
          case atStart => exact ⟨0, false, by omega, rfl, rfl, rfl, HF0.out.new ((Keep.refl Own.Zero wo).alloc _), .inl ⟨rfl, rfl, HS0.out.new ((Keep.refl Own.Zero wo).alloc _), Blk.new wo _ _⟩⟩
          case round =>
            obtain ⟨i, is, him, hqi, rfl, rfl, hfr, hwi⟩ := hrel
            have HQi := Lib.hid hqi
            have HFr := Lib.hid hfr
            clear hqi hfr
            rcases hwi with ⟨hi0, rfl, hs, hba⟩ | ⟨hi0, rfl, V, hs, hba⟩
            · have hi1 : (i : Int) < 1 := by omega
              have hsz1 : 1 ≤ 127 := (by decide)
              have hi2 : (i : Int) < 127 := by omega
              have HS := Lib.hid hs
              have HBa := Lib.hid hba
              obtain ⟨F, hF⟩ : ∃ F, F = endF ys := ⟨_, rfl⟩
              have HFf := Lib.hid hF
              obtain ⟨b', o', hb', _, hz⟩ := fr_at (j := i) (f := endF ys) HFr.out.row (by rw [hi0]; rfl)
              cases hb'
              rw [← hF] at hz
              have x0 := hz 0 (by omega)
              have x1 := hz 1 (by omega)
              have x2 := hz 2 (by omega)
              have x3 := hz 3 (by omega)
              have x4 := hz 4 (by omega)
              have x5 := hz 5 (by omega)
              have x6 := hz 6 (by omega)
              have x7 := hz 7 (by omega)
              simp only [← Nat.add_assoc, Nat.add_zero] at x0 x1 x2 x3 x4 x5 x6 x7
              have HI0 := Lib.hid hi0
              clear hs hba hF hz hi0 hsz1
              go_wp2_with fail
              have hcall := feed_end HS.out.rcv HI.out.byte (by rw [← HN.out]; omega)
              rw [← HFf.out] at hcall
              refine hcall.mono ?_
              rintro e w6 ⟨rfl, V6, hp⟩
              have hl6 := HS.out.laid HBa.out HBase.out hp.out.1 hp.out.2
              have HS6 := Lib.hid hl6.1
              have HB6 := Lib.hid hl6.2
              have HKr := Lib.hid hp.out.2
              clear hcall hp hl6 x0 x1 x2 x3 x4 x5 x6 x7
              rw [show aggF (fun k => if k = 0 then 161 else 0) = .agg #[.int .u8 161, .int .u8 0, .int .u8 0, .int .u8 0, .int .u8 0, .int .u8 0, .int .u8 0, .int .u8 0] from rfl]
              have z0 := (HB6.out).cell 0
              have z1 := (HB6.out).cell 1
              have z2 := (HB6.out).cell 2
              have z3 := (HB6.out).cell 3
              have z4 := (HB6.out).cell 4
              have z5 := (HB6.out).cell 5
              have z6 := (HB6.out).cell 6
              have z7 := (HB6.out).cell 7
              have zf0 := (HB6.out).frozen 0
              have zf1 := (HB6.out).frozen 1
              have zf2 := (HB6.out).frozen 2
              have zf3 := (HB6.out).frozen 3
              have zf4 := (HB6.out).frozen 4
              have zf5 := (HB6.out).frozen 5
              have zf6 := (HB6.out).frozen 6
              have zf7 := (HB6.out).frozen 7
              simp only [frameC, List.getElem?_toArray, List.getElem?_cons_zero, List.getElem?_cons_succ] at z0 z1 z2 z3 z4 z5 z6 z7
              go_wp2_with fail
              have HK7 : Hid (Keep (Own.One wo.heap.size) w6 _) := Lib.hid (keep8 (Keep.refl (Own.One wo.heap.size) w6) (.inl rfl) (.int .u8 161) (.int .u8 0) (.int .u8 0) (.int .u8 0) (.int .u8 0) (.int .u8 0) (.int .u8 0) (.int .u8 0))
              have hfr7 := (HFr.out.rstep HS.out.rcv HKr.out).far (fun a ha => by cases ha; exact Nat.ne_of_lt hbq) HK7.out
              have hs7 := HS6.out.far HB6.out HBase.out HK7.out
              have hb7 := blk8 HB6.out (.int .u8 161) (.int .u8 0) (.int .u8 0) (.int .u8 0) (.int .u8 0) (.int .u8 0) (.int .u8 0) (.int .u8 0)
              go_roundg (1 - (i + 1))
              case measure => rw [HQi.out]; have := HI0.out; omega
              case rel => exact ⟨i + 1, true, by have := HI0.out; omega, rfl, by go_num, rfl, hfr7, .inr ⟨by rw [HI0.out], rfl, V6, hs7, hb7⟩⟩
            · have hnl : ¬ (i : Int) < 1 := by omega
              have HS := Lib.hid hs
              have HBa := Lib.hid hba
              clear hs hba hi0
              have z0 := (HBa.out).cell 0
              have z1 := (HBa.out).cell 1
              have z2 := (HBa.out).cell 2
              have z3 := (HBa.out).cell 3
              have z4 := (HBa.out).cell 4
              have z5 := (HBa.out).cell 5
              have z6 := (HBa.out).cell 6
              have z7 := (HBa.out).cell 7
              have zf0 := (HBa.out).frozen 0
              have zf1 := (HBa.out).frozen 1
              have zf2 := (HBa.out).frozen 2
              have zf3 := (HBa.out).frozen 3
              have zf4 := (HBa.out).frozen 4
              have zf5 := (HBa.out).frozen 5
              have zf6 := (HBa.out).frozen 6
              have zf7 := (HBa.out).frozen 7
              simp only [List.getElem?_toArray, List.getElem?_cons_zero, List.getElem?_cons_succ] at z0 z1 z2 z3 z4 z5 z6 z7
              go_wp2_with fail
              refine (Feed_taken HS.out.snd rfl rfl rfl 0 0 0 0 0 0 0).mono ?_
              rintro e w8 ⟨rfl, hp8⟩
              have HS8 := Lib.hid (HS.out.sstep hp8.out.1 rfl hp8.out.2)
              clear hp8 z0 z1 z2 z3 z4 z5 z6 z7 zf0 zf1 zf2 zf3 zf4 zf5 zf6 zf7
              go_wp2_with fail
              refine (SDone_is HS8.out.snd).mono ?_
              rintro e w9 ⟨rfl, hk9⟩
              have HS9 := Lib.hid (HS8.out.new hk9.out)
              clear hk9
              rw [show (sndAt A1 c1 ys (segs ys) mm true).code = 0 from rfl]
              go_wp2_with fail
              refine (RDone_over HS9.out.rcv rfl).mono ?_
              rintro e w10 ⟨A10, c10, rfl, hp10⟩
              have HGot := Lib.hid hp10.out.1
              have HK10 : Hid (Keep Own.Zero w w10) := Lib.hid (HS9.out.keep.trans hp10.out.2 (fun _ h => h.elim))
              have HB10 : Hid (Row w10 A (ints .u8 ys)) := Lib.hid (HI.out.row.keep HK10.out (fun _ _ _ => id))
              clear hp10
              have hs1 : Sem.run Try.prog (convert 22 9 (.slice A10 n c10)) w10 = .ok (.string (str ys)) w10 := run_str under22 under5 under9 HGot.out.row n HN.out
              have hs2 : Sem.run Try.prog (convert 22 9 (.slice A n cA)) w10 = .ok (.string (str ys)) w10 := run_str under22 under5 under9 HB10.out n HN.out
              rw [show (⟨127, 2, 0, la0, V, ys, 0⟩ : Rcv).xs = ys from rfl, show (⟨127, 2, 0, la0, V, ys, 0⟩ : Rcv).code = 0 from rfl, ← HN.out]
              go_wp2_with ((with_reducible refine (lives_is _).mono ?_); rintro e w11 ⟨rfl, hk11⟩)
              go_ret
              exact ⟨rfl, HK10.out.trans hk11.out (fun _ h => h.elim)⟩
      · have hK9 : 0 < K := by omega
        have hK8 : (0 : Int) < (K : Int) := by omega
        have hkeep : Keep Own.Zero w wo := by
          rcases hst with ⟨⟨la, V, hs, _⟩, _⟩ | ⟨la, V, mm, _, hs, _⟩
          · exact hs.keep
          · exact hs.keep
        obtain ⟨z, hz9⟩ : ∃ z, zs[bl % K]? = some z := ⟨_, List.getElem?_eq_getElem (by rw [← HKl.out]; exact Nat.mod_lt _ hK9)⟩
        obtain ⟨bB, oB, rfl, hbB, hzB⟩ := HB.out.row (bl % K) (.int .u8 z) (by rw [ints_get, hz9]; rfl)
        have xB := (hkeep.cell (p := ⟨bB, oB + bl % K, none⟩) hbB id).trans hzB
        have hzb := HB.out.byte z (List.mem_of_getElem? hz9)
        obtain ⟨jm, hjm⟩ : ∃ jm, jm = bl % K := ⟨_, rfl⟩
        have hjK : jm < K := by rw [hjm]; exact Nat.mod_lt _ hK9
        have hjm2 : (bl : Int).tmod (K : Int) = (jm : Int) := by
          rw [Int.tmod_eq_emod_of_nonneg (by omega), hjm]
          simp
        rw [← hjm] at xB
        obtain ⟨SZ, hSZ⟩ : ∃ SZ : Nat, SZ = 1 + z.toNat % 127 := ⟨_, rfl⟩
        have sz0 : 1 ≤ SZ := by omega
        have sz1 : SZ ≤ 127 := by omega
        have hzt : z.tmod 127 = z % 127 := Int.tmod_eq_emod_of_nonneg hzb.1
        have hzk : 1 + z % 127 = (SZ : Int) := by omega
        clear hkeep hz9 hzB hjm hSZ hK0
        go_wp2_with fail
        rcases hst with ⟨hst, hbp, hm⟩ | hst
        · obtain ⟨la0, V0, hs0, hf0, hpN⟩ := hst
          rw [← HNn.out] at hpN hm
          have hm1 : 1 ≤ m := by omega
          have hmk : m ≤ 127 := by omega
          have hmN : p + m ≤ N := by omega
          obtain ⟨bq, oq, rfl, hbq, _⟩ := fr_at hf0.row (framesF_get (bs := ys) (p := p) (show 0 < m by omega))
          have HS0 := Lib.hid hs0
          have HF0 := Lib.hid hf0
          have HMm := Lib.hid hm
          have HBase : Hid (w1.heap.size ≤ wo.heap.size) := Lib.hid hs0.rcv.bs
          clear hs0 hf0 hm
          go_loopg [14, 15] m (fun q s14 s15 wi => ∃ i is, i ≤ m ∧ q = m - i ∧ s15 = .int .i64 (i : Nat) ∧ s14 = .bool is ∧ FrAt wi w.heap.size (some ⟨bq, oq, none⟩) m c (framesF ys p m) ∧ Within w wi gs gr w1.heap.size A1 c1 ys 127 p m i wo.heap.size is)
          case atStart => exact ⟨0, false, Nat.zero_le _, rfl, rfl, rfl, HF0.out.new ((Keep.refl Own.Zero wo).alloc _), .inl ⟨0, la0, V0, fun _ => 0, rfl, Nat.le_refl _, (fun h => by omega), by rw [← HNn.out]; exact hpN, HS0.out.new ((Keep.refl Own.Zero wo).alloc _), Blk.new wo _ _⟩⟩
          case round =>
            obtain ⟨i, is, him, hqi, rfl, rfl, hfr, hwi⟩ := hrel
            have HQi := Lib.hid hqi
            have HFr := Lib.hid hfr
            clear hqi hfr
            by_cases hilt : i < m ∧ i < SZ
            · obtain ⟨hilt, hisz⟩ := hilt
              have hi1 : (i : Int) < (m : Int) := by omega
              have hi2 : (i : Int) < (SZ : Int) := by omega
              have hi0 : (0 : Int) ≤ (i : Int) := by omega
              rcases hwi with ⟨c', la, V, G, rfl, hci, hc0, hcN, hs, hba⟩ | ⟨V, rfl, h2, _⟩
              · have HS := Lib.hid hs
                have HBa := Lib.hid hba
                rw [← HNn.out] at hcN
                obtain ⟨F, hF⟩ : ∃ F, F = segF ys (p + i) i := ⟨_, rfl⟩
                have HFf := Lib.hid hF
                obtain ⟨b', o', hb', _, hz⟩ := fr_at HFr.out.row (framesF_get (bs := ys) (p := p) hilt)
                cases hb'
                rw [← hF] at hz
                have x0 := hz 0 (by omega)
                have x1 := hz 1 (by omega)
                have x2 := hz 2 (by omega)
                have x3 := hz 3 (by omega)
                have x4 := hz 4 (by omega)
                have x5 := hz 5 (by omega)
                have x6 := hz 6 (by omega)
                have x7 := hz 7 (by omega)
                simp only [← Nat.add_assoc, Nat.add_zero] at x0 x1 x2 x3 x4 x5 x6 x7
                clear hs hba hF hz
                go_wp2_with fail
                by_cases hci2 : c' = i
                · have hci3 := hci2.symm
                  subst hci3
                  rw [HNn.out] at hcN
                  have hcall := feed_next HS.out.rcv HI.out.byte (by rw [← HN.out]; omega) (by omega) hcN
                  rw [← HFf.out] at hcall
                  refine hcall.mono ?_
                  rintro e w6 (⟨hc9, rfl, V6, hp⟩ | ⟨hc9, rfl, V6, hp⟩)
                  · have hl6 := HS.out.laid HBa.out HBase.out hp.out.1 hp.out.2
                    have him1 : i + 1 = m := by have := HMm.out; have := HNn.out; omega
                    rw [him1] at hl6
                    have HS6 := Lib.hid hl6.1
                    have HB6 := Lib.hid hl6.2
                    have HKr := Lib.hid hp.out.2
                    have HHc := Lib.hid hc9
                    clear hcall hp hl6 hc9
                    rw [aggF_ans]
                    have z0 := (HB6.out).cell 0
                    have z1 := (HB6.out).cell 1
                    have z2 := (HB6.out).cell 2
                    have z3 := (HB6.out).cell 3
                    have z4 := (HB6.out).cell 4
                    have z5 := (HB6.out).cell 5
                    have z6 := (HB6.out).cell 6
                    have z7 := (HB6.out).cell 7
                    have zf0 := (HB6.out).frozen 0
                    have zf1 := (HB6.out).frozen 1
                    have zf2 := (HB6.out).frozen 2
                    have zf3 := (HB6.out).frozen 3
                    have zf4 := (HB6.out).frozen 4
                    have zf5 := (HB6.out).frozen 5
                    have zf6 := (HB6.out).frozen 6
                    have zf7 := (HB6.out).frozen 7
                    simp only [frameC, List.getElem?_toArray, List.getElem?_cons_zero, List.getElem?_cons_succ] at z0 z1 z2 z3 z4 z5 z6 z7
                    clear x0 x1 x2 x3 x4 x5 x6 x7
                    go_wp2_with fail
                    have HK7 : Hid (Keep (Own.One wo.heap.size) w6 _) := Lib.hid (keep8 (Keep.refl (Own.One wo.heap.size) w6) (.inl rfl) (.int .u8 162) (.int .u8 m) (.int .u8 127) (.int .u8 0) (.int .u8 0) (.int .u8 0) (.int .u8 0) (.int .u8 0))
                    have hfr7 := (HFr.out.rstep HS.out.rcv HKr.out).far (fun a ha => by cases ha; exact Nat.ne_of_lt hbq) HK7.out
                    have hs7 := HS6.out.far HB6.out HBase.out HK7.out
                    have hb7 := blk8 HB6.out (.int .u8 162) (.int .u8 m) (.int .u8 127) (.int .u8 0) (.int .u8 0) (.int .u8 0) (.int .u8 0) (.int .u8 0)
                    go_roundg (m - (i + 1))
                    case measure => rw [HQi.out]; omega
                    case rel => exact ⟨i + 1, true, hilt, rfl, by go_num, rfl, hfr7, .inr ⟨V6, rfl, him1, by rw [← HNn.out]; omega, hs7, hb7⟩⟩
                  · have hl6 := HS.out.laid HBa.out HBase.out hp.out.1 hp.out.2
                    have HS6 := Lib.hid hl6.1
                    have HB6 := Lib.hid hl6.2
                    have HKr := Lib.hid hp.out.2
                    have hlt6 : p + (i + 1) < segs ys := by omega
                    clear hcall hp hl6 hc9
                    rw [aggF_0]
                    have z0 := (HB6.out).cell 0
                    have z1 := (HB6.out).cell 1
                    have z2 := (HB6.out).cell 2
                    have z3 := (HB6.out).cell 3
                    have z4 := (HB6.out).cell 4
                    have z5 := (HB6.out).cell 5
                    have z6 := (HB6.out).cell 6
                    have z7 := (HB6.out).cell 7
                    have zf0 := (HB6.out).frozen 0
                    have zf1 := (HB6.out).frozen 1
                    have zf2 := (HB6.out).frozen 2
                    have zf3 := (HB6.out).frozen 3
                    have zf4 := (HB6.out).frozen 4
                    have zf5 := (HB6.out).frozen 5
                    have zf6 := (HB6.out).frozen 6
                    have zf7 := (HB6.out).frozen 7
                    simp only [frameC, List.getElem?_toArray, List.getElem?_cons_zero, List.getElem?_cons_succ] at z0 z1 z2 z3 z4 z5 z6 z7
                    clear x0 x1 x2 x3 x4 x5 x6 x7
                    go_wp2_with fail
                    have HK7 : Hid (Keep (Own.One wo.heap.size) w6 _) := Lib.hid (keep8 (Keep.refl (Own.One wo.heap.size) w6) (.inl rfl) (.int .u8 0) (.int .u8 0) (.int .u8 0) (.int .u8 0) (.int .u8 0) (.int .u8 0) (.int .u8 0) (.int .u8 0))
                    have hfr7 := (HFr.out.rstep HS.out.rcv HKr.out).far (fun a ha => by cases ha; exact Nat.ne_of_lt hbq) HK7.out
                    have hs7 := HS6.out.far HB6.out HBase.out HK7.out
                    have hb7 := blk8 HB6.out (.int .u8 0) (.int .u8 0) (.int .u8 0) (.int .u8 0) (.int .u8 0) (.int .u8 0) (.int .u8 0) (.int .u8 0)
                    go_roundg (m - (i + 1))
                    case measure => rw [HQi.out]; omega
                    case rel => exact ⟨i + 1, false, hilt, rfl, by go_num, rfl, hfr7, .inl ⟨i + 1, la, V6, fun _ => 0, rfl, Nat.le_refl _, (fun _ => by omega), hlt6, hs7, hb7⟩⟩
                · have hcall := feed_skip (i := i) HS.out.rcv (by omega) hci2
                  rw [← HFf.out] at hcall
                  refine hcall.mono ?_
                  rintro e w6 ⟨rfl, V6, hp⟩
                  have hl6 := HS.out.laid HBa.out HBase.out hp.out.1 hp.out.2
                  have HS6 := Lib.hid hl6.1
                  have HB6 := Lib.hid hl6.2
                  have HKr := Lib.hid hp.out.2
                  clear hcall hp hl6
                  rw [aggF_0]
                  have z0 := (HB6.out).cell 0
                  have z1 := (HB6.out).cell 1
                  have z2 := (HB6.out).cell 2
                  have z3 := (HB6.out).cell 3
                  have z4 := (HB6.out).cell 4
                  have z5 := (HB6.out).cell 5
                  have z6 := (HB6.out).cell 6
                  have z7 := (HB6.out).cell 7
                  have zf0 := (HB6.out).frozen 0
                  have zf1 := (HB6.out).frozen 1
                  have zf2 := (HB6.out).frozen 2
                  have zf3 := (HB6.out).frozen 3
                  have zf4 := (HB6.out).frozen 4
                  have zf5 := (HB6.out).frozen 5
                  have zf6 := (HB6.out).frozen 6
                  have zf7 := (HB6.out).frozen 7
                  simp only [frameC, List.getElem?_toArray, List.getElem?_cons_zero, List.getElem?_cons_succ] at z0 z1 z2 z3 z4 z5 z6 z7
                  clear x0 x1 x2 x3 x4 x5 x6 x7
                  go_wp2_with fail
                  have HK7 : Hid (Keep (Own.One wo.heap.size) w6 _) := Lib.hid (keep8 (Keep.refl (Own.One wo.heap.size) w6) (.inl rfl) (.int .u8 0) (.int .u8 0) (.int .u8 0) (.int .u8 0) (.int .u8 0) (.int .u8 0) (.int .u8 0) (.int .u8 0))
                  have hfr7 := (HFr.out.rstep HS.out.rcv HKr.out).far (fun a ha => by cases ha; exact Nat.ne_of_lt hbq) HK7.out
                  have hs7 := HS6.out.far HB6.out HBase.out HK7.out
                  have hb7 := blk8 HB6.out (.int .u8 0) (.int .u8 0) (.int .u8 0) (.int .u8 0) (.int .u8 0) (.int .u8 0) (.int .u8 0) (.int .u8 0)
                  go_roundg (m - (i + 1))
                  case measure => rw [HQi.out]; omega
                  case rel => exact ⟨i + 1, false, hilt, rfl, by go_num, rfl, hfr7, .inl ⟨c', la, V6, fun _ => 0, rfl, by omega, (fun _ => by omega), by rw [← HNn.out]; exact hcN, hs7, hb7⟩⟩
              · omega
            · rcases hwi with ⟨c', la, V, G, rfl, hci, hc0, hcN, hs, hba⟩ | ⟨V, rfl, him2, h2, hs, hba⟩
              · have HS := Lib.hid hs
                have HBa := Lib.hid hba
                have HC0 := Lib.hid (show 0 < c' from hc0 (by omega))
                have HCN := Lib.hid hcN
                have HCi : Hid (c' ≤ m) := Lib.hid (by omega)
                have HC127 : Hid (c' ≤ 127) := Lib.hid (by omega)
                clear hs hba hc0 hcN hci
                by_cases hie : i < m
                · have hn1 : (i : Int) < (m : Int) := by omega
                  have hn2 : ¬ (i : Int) < (SZ : Int) := by omega
                  clear hilt
                  first
                    | (exfalso; omega)
                    | (go_wp2_with fail
                       refine (Ask_0 HS.out.rcv rfl).mono ?_
                       rintro e w6 ⟨rfl, hp⟩
                       have hl6 := HS.out.laid HBa.out HBase.out hp.out.1 (hp.out.2.mono (fun k hk => .inl hk))
                       have HS6 : Hid (Sess w w6 gs gr w1.heap.size (sndAt A1 c1 ys p m false) (rAt 127 (p + c') 0 ys (ansF c' 127) V)) := Lib.hid hl6.1
                       have HB6 := Lib.hid hl6.2
                       clear hp hl6
                       rw [aggF_ans]
                       go_wp2_with (refine wpList_store_row rfl 30 (.tmp 13) (.tmp 99) rfl wo.heap.size #[.int .u8 162, .int .u8 c', .int .u8 127, .int .u8 0, .int .u8 0, .int .u8 0, .int .u8 0, .int .u8 0] rfl rfl 30 (frameC G) HB6.out size30' rfl (by simp [Value.oneCell']) ?_; obtain ⟨W7, hW7⟩ : ∃ x, x = w6.setRow wo.heap.size #[.int .u8 162, .int .u8 c', .int .u8 127, .int .u8 0, .int .u8 0, .int .u8 0, .int .u8 0, .int .u8 0] := ⟨_, rfl⟩; have HB7 : Hid (Blk W7 wo.heap.size #[.int .u8 162, .int .u8 c', .int .u8 127, .int .u8 0, .int .u8 0, .int .u8 0, .int .u8 0, .int .u8 0] 30) := Lib.hid (by rw [hW7]; exact setRow_blk HB6.out _); have HK7 : Hid (Keep (Own.One wo.heap.size) w6 W7) := Lib.hid (by rw [hW7]; exact setRow_keep _ _ _); rw [← hW7]; clear hW7; have z0 : W7.cell? ⟨wo.heap.size, 0, none⟩ = some (.int .u8 162) := HB7.out.cell 0; have z1 : W7.cell? ⟨wo.heap.size, 1, none⟩ = some (.int .u8 c') := HB7.out.cell 1; have z2 : W7.cell? ⟨wo.heap.size, 2, none⟩ = some (.int .u8 127) := HB7.out.cell 2; have z3 : W7.cell? ⟨wo.heap.size, 3, none⟩ = some (.int .u8 0) := HB7.out.cell 3; have z4 : W7.cell? ⟨wo.heap.size, 4, none⟩ = some (.int .u8 0) := HB7.out.cell 4; have z5 : W7.cell? ⟨wo.heap.size, 5, none⟩ = some (.int .u8 0) := HB7.out.cell 5; have z6 : W7.cell? ⟨wo.heap.size, 6, none⟩ = some (.int .u8 0) := HB7.out.cell 6; have z7 : W7.cell? ⟨wo.heap.size, 7, none⟩ = some (.int .u8 0) := HB7.out.cell 7; have zf2 : W7.frozen? ⟨wo.heap.size, 2, none⟩ = false := HB7.out.frozen 2)
                       have HS7 := Lib.hid (HS6.out.far HB6.out HBase.out (HK7.out.set1 2 (.int .u8 (SZ : Int))))
                       refine (Feed_more (HS7.out).snd rfl rfl rfl c' SZ 0 0 0 0 0 HCi.out HC127.out sz0 sz1 HCN.out _ rfl).mono ?_
                       rintro e w8 ⟨A8, c8, rfl, hp8⟩
                       have HS8 := Lib.hid ((HS7.out).sstep hp8.out.1 rfl hp8.out.2.2)
                       have HF8 := Lib.hid (own_mono hp8.out.2.1 (HS7.out).keep.size)
                       clear hp8
                       obtain ⟨m8, hm8⟩ : ∃ m8, m8 = min SZ (segs ys - (p + c')) := ⟨_, rfl⟩
                       have HM8 := Lib.hid hm8
                       have HS8b : Hid (Sess w w8 gs gr w1.heap.size (sndAt A1 c1 ys (p + c') m8 false) (rAt 127 (p + c') 0 ys (ansF c' 127) V)) := Lib.hid (by rw [hm8]; exact HS8.out)
                       have HF8b : Hid (FrAt w8 w.heap.size A8 m8 c8 (framesF ys (p + c') m8)) := Lib.hid (by rw [hm8]; exact HF8.out)
                       rw [show (sndAt A1 c1 ys p m false).at' = p from rfl, show (sndAt A1 c1 ys p m false).bs = ys from rfl, ← hm8]
                       clear HS8 HF8 hm8
                       go_wp2_with fail
                       refine (SDone_is HS8b.out.snd).mono ?_
                       rintro e w9 ⟨rfl, hk9⟩
                       have HS9 := Lib.hid (HS8b.out.new hk9.out)
                       have HF9 := Lib.hid (HF8b.out.new hk9.out)
                       clear hk9
                       go_wp2_with fail
                       go_roundg (1000 - (bl + 1))
                       case measure => rw [HQ.out]; omega
                       case rel => exact ⟨bl + 1, A8, c8, m8, p + c', SZ, rfl, by have := HCN.out; have := HC0.out; omega, by go_num, rfl, sz0, sz1, .inl ⟨⟨ansF c' 127, V, HS9.out, HF9.out, HCN.out⟩, by have := HC0.out; omega, HM8.out⟩⟩
                      )
                · clear hilt
                  have him2 : m = i := by omega
                  subst him2
                  have hn1 : ¬ (m : Int) < (m : Int) := by omega
                  clear hie
                  go_wp2_with fail
                  refine (Ask_0 HS.out.rcv rfl).mono ?_
                  rintro e w6 ⟨rfl, hp⟩
                  have hl6 := HS.out.laid HBa.out HBase.out hp.out.1 (hp.out.2.mono (fun k hk => .inl hk))
                  have HS6 : Hid (Sess w w6 gs gr w1.heap.size (sndAt A1 c1 ys p m false) (rAt 127 (p + c') 0 ys (ansF c' 127) V)) := Lib.hid hl6.1
                  have HB6 := Lib.hid hl6.2
                  clear hp hl6
                  rw [aggF_ans]
                  go_wp2_with (refine wpList_store_row rfl 30 (.tmp 13) (.tmp 99) rfl wo.heap.size #[.int .u8 162, .int .u8 c', .int .u8 127, .int .u8 0, .int .u8 0, .int .u8 0, .int .u8 0, .int .u8 0] rfl rfl 30 (frameC G) HB6.out size30' rfl (by simp [Value.oneCell']) ?_; obtain ⟨W7, hW7⟩ : ∃ x, x = w6.setRow wo.heap.size #[.int .u8 162, .int .u8 c', .int .u8 127, .int .u8 0, .int .u8 0, .int .u8 0, .int .u8 0, .int .u8 0] := ⟨_, rfl⟩; have HB7 : Hid (Blk W7 wo.heap.size #[.int .u8 162, .int .u8 c', .int .u8 127, .int .u8 0, .int .u8 0, .int .u8 0, .int .u8 0, .int .u8 0] 30) := Lib.hid (by rw [hW7]; exact setRow_blk HB6.out _); have HK7 : Hid (Keep (Own.One wo.heap.size) w6 W7) := Lib.hid (by rw [hW7]; exact setRow_keep _ _ _); rw [← hW7]; clear hW7; have z0 : W7.cell? ⟨wo.heap.size, 0, none⟩ = some (.int .u8 162) := HB7.out.cell 0; have z1 : W7.cell? ⟨wo.heap.size, 1, none⟩ = some (.int .u8 c') := HB7.out.cell 1; have z2 : W7.cell? ⟨wo.heap.size, 2, none⟩ = some (.int .u8 127) := HB7.out.cell 2; have z3 : W7.cell? ⟨wo.heap.size, 3, none⟩ = some (.int .u8 0) := HB7.out.cell 3; have z4 : W7.cell? ⟨wo.heap.size, 4, none⟩ = some (.int .u8 0) := HB7.out.cell 4; have z5 : W7.cell? ⟨wo.heap.size, 5, none⟩ = some (.int .u8 0) := HB7.out.cell 5; have z6 : W7.cell? ⟨wo.heap.size, 6, none⟩ = some (.int .u8 0) := HB7.out.cell 6; have z7 : W7.cell? ⟨wo.heap.size, 7, none⟩ = some (.int .u8 0) := HB7.out.cell 7; have zf2 : W7.frozen? ⟨wo.heap.size, 2, none⟩ = false := HB7.out.frozen 2)
                  have HS7 := Lib.hid (HS6.out.far HB6.out HBase.out (HK7.out.set1 2 (.int .u8 (SZ : Int))))
                  refine (Feed_more (HS7.out).snd rfl rfl rfl c' SZ 0 0 0 0 0 HCi.out HC127.out sz0 sz1 HCN.out _ rfl).mono ?_
                  rintro e w8 ⟨A8, c8, rfl, hp8⟩
                  have HS8 := Lib.hid ((HS7.out).sstep hp8.out.1 rfl hp8.out.2.2)
                  have HF8 := Lib.hid (own_mono hp8.out.2.1 (HS7.out).keep.size)
                  clear hp8
                  obtain ⟨m8, hm8⟩ : ∃ m8, m8 = min SZ (segs ys - (p + c')) := ⟨_, rfl⟩
                  have HM8 := Lib.hid hm8
                  have HS8b : Hid (Sess w w8 gs gr w1.heap.size (sndAt A1 c1 ys (p + c') m8 false) (rAt 127 (p + c') 0 ys (ansF c' 127) V)) := Lib.hid (by rw [hm8]; exact HS8.out)
                  have HF8b : Hid (FrAt w8 w.heap.size A8 m8 c8 (framesF ys (p + c') m8)) := Lib.hid (by rw [hm8]; exact HF8.out)
                  rw [show (sndAt A1 c1 ys p m false).at' = p from rfl, show (sndAt A1 c1 ys p m false).bs = ys from rfl, ← hm8]
                  clear HS8 HF8 hm8
                  go_wp2_with fail
                  refine (SDone_is HS8b.out.snd).mono ?_
                  rintro e w9 ⟨rfl, hk9⟩
                  have HS9 := Lib.hid (HS8b.out.new hk9.out)
                  have HF9 := Lib.hid (HF8b.out.new hk9.out)
                  clear hk9
                  go_wp2_with fail
                  go_roundg (1000 - (bl + 1))
                  case measure => rw [HQ.out]; omega
                  case rel => exact ⟨bl + 1, A8, c8, m8, p + c', SZ, rfl, by have := HCN.out; have := HC0.out; omega, by go_num, rfl, sz0, sz1, .inl ⟨⟨ansF c' 127, V, HS9.out, HF9.out, HCN.out⟩, by have := HC0.out; omega, HM8.out⟩⟩
              · have HIm := Lib.hid him2
                have HS := Lib.hid hs
                have HBa : Hid (Blk wr wo.heap.size #[.int .u8 162, .int .u8 m, .int .u8 127, .int .u8 0, .int .u8 0, .int .u8 0, .int .u8 0, .int .u8 0] 30) := Lib.hid hba
                have HH2 := Lib.hid h2
                have HCi : Hid (m ≤ m) := Lib.hid (Nat.le_refl _)
                have HC0 : Hid (0 < m) := Lib.hid (by omega)
                have HC127 : Hid (m ≤ 127) := Lib.hid (by omega)
                clear hs hba h2 hilt
                have him3 := him2.symm
                subst him3
                have hn1 : ¬ (m : Int) < (m : Int) := by omega
                have z0 := (HBa.out).cell 0
                have z1 := (HBa.out).cell 1
                have z2 := (HBa.out).cell 2
                have z3 := (HBa.out).cell 3
                have z4 := (HBa.out).cell 4
                have z5 := (HBa.out).cell 5
                have z6 := (HBa.out).cell 6
                have z7 := (HBa.out).cell 7
                have zf0 := (HBa.out).frozen 0
                have zf1 := (HBa.out).frozen 1
                have zf2 := (HBa.out).frozen 2
                have zf3 := (HBa.out).frozen 3
                have zf4 := (HBa.out).frozen 4
                have zf5 := (HBa.out).frozen 5
                have zf6 := (HBa.out).frozen 6
                have zf7 := (HBa.out).frozen 7
                simp only [List.getElem?_toArray, List.getElem?_cons_zero, List.getElem?_cons_succ] at z0 z1 z2 z3 z4 z5 z6 z7
                have HKs : Hid (Keep (Own.One wo.heap.size) wr (wr.setCell ⟨wo.heap.size, 2, none⟩ (.int .u8 (SZ : Int)))) := Lib.hid ((Keep.refl (Own.One wo.heap.size) wr).set1 2 _)
                by_cases hpm : p + m < segs ys
                · have HCN := Lib.hid hpm
                  have HS7 : Hid (Sess w (wr.setCell ⟨wo.heap.size, 2, none⟩ (.int .u8 (SZ : Int))) gs gr w1.heap.size (sndAt A1 c1 ys p m false) (rAt 127 (p + m) 0 ys (ansF m 127) V)) := Lib.hid (by
                    have h := HS.out
                    unfold rAns at h
                    rw [if_neg (by omega)] at h
                    exact h.far HBa.out HBase.out HKs.out)
                  clear hpm
                  go_wp2_with fail
                  refine (Feed_more (HS7.out).snd rfl rfl rfl m SZ 0 0 0 0 0 HCi.out HC127.out sz0 sz1 HCN.out _ rfl).mono ?_
                  rintro e w8 ⟨A8, c8, rfl, hp8⟩
                  have HS8 := Lib.hid ((HS7.out).sstep hp8.out.1 rfl hp8.out.2.2)
                  have HF8 := Lib.hid (own_mono hp8.out.2.1 (HS7.out).keep.size)
                  clear hp8
                  obtain ⟨m8, hm8⟩ : ∃ m8, m8 = min SZ (segs ys - (p + m)) := ⟨_, rfl⟩
                  have HM8 := Lib.hid hm8
                  have HS8b : Hid (Sess w w8 gs gr w1.heap.size (sndAt A1 c1 ys (p + m) m8 false) (rAt 127 (p + m) 0 ys (ansF m 127) V)) := Lib.hid (by rw [hm8]; exact HS8.out)
                  have HF8b : Hid (FrAt w8 w.heap.size A8 m8 c8 (framesF ys (p + m) m8)) := Lib.hid (by rw [hm8]; exact HF8.out)
                  rw [show (sndAt A1 c1 ys p m false).at' = p from rfl, show (sndAt A1 c1 ys p m false).bs = ys from rfl, ← hm8]
                  clear HS8 HF8 hm8
                  go_wp2_with fail
                  refine (SDone_is HS8b.out.snd).mono ?_
                  rintro e w9 ⟨rfl, hk9⟩
                  have HS9 := Lib.hid (HS8b.out.new hk9.out)
                  have HF9 := Lib.hid (HF8b.out.new hk9.out)
                  clear hk9
                  go_wp2_with fail
                  go_roundg (1000 - (bl + 1))
                  case measure => rw [HQ.out]; omega
                  case rel => exact ⟨bl + 1, A8, c8, m8, p + m, SZ, rfl, by have := HCN.out; have := HC0.out; omega, by go_num, rfl, sz0, sz1, .inl ⟨⟨ansF m 127, V, HS9.out, HF9.out, HCN.out⟩, by have := HC0.out; omega, HM8.out⟩⟩
                · have HE : Hid (p + m = segs ys) := Lib.hid (by have := HH2.out; omega)
                  have HS7 : Hid (Sess w (wr.setCell ⟨wo.heap.size, 2, none⟩ (.int .u8 (SZ : Int))) gs gr w1.heap.size (sndAt A1 c1 ys p m false) ⟨127, 1, 0, ansF m 127, V, pads ys (segs ys), 0⟩) := Lib.hid (by
                    have h := HS.out
                    unfold rAns at h
                    rw [if_pos HE.out, HE.out] at h
                    exact h.far HBa.out HBase.out HKs.out)
                  clear hpm
                  go_wp2_with fail
                  refine (Feed_end HS7.out.snd rfl rfl rfl m SZ 0 0 0 0 0 (Nat.le_refl _) HC127.out sz0 sz1 HE.out).mono ?_
                  rintro e w8 ⟨A8, c8, rfl, hp8⟩
                  have HS8 := Lib.hid (HS7.out.sstep hp8.out.1 rfl hp8.out.2.2)
                  have HF8 : Hid (FrAt w8 w.heap.size A8 1 c8 [endF ys]) := Lib.hid (own_mono hp8.out.2.1 HS7.out.keep.size)
                  clear hp8
                  go_wp2_with fail
                  refine (SDone_is HS8.out.snd).mono ?_
                  rintro e w9 ⟨rfl, hk9⟩
                  have HS9 : Hid (Sess w w9 gs gr w1.heap.size (sndAt A1 c1 ys (segs ys) m true) ⟨127, 1, 0, ansF m 127, V, pads ys (segs ys), 0⟩) := Lib.hid (by
                    have h := HS8.out.new hk9.out
                    unfold sndAt at h
                    simp only [HE.out] at h
                    exact h)
                  have HF9 := Lib.hid (HF8.out.new hk9.out)
                  clear hk9
                  go_wp2_with fail
                  go_roundg (1000 - (bl + 1))
                  case measure => rw [HQ.out]; omega
                  case rel => exact ⟨bl + 1, A8, c8, 1, p, SZ, rfl, by rw [← HNn.out]; omega, by go_num, rfl, sz0, sz1, .inr ⟨ansF m 127, V, m, rfl, HS9.out, HF9.out⟩⟩
        · obtain ⟨la0, V0, mm, rfl, hs0, hf0⟩ := hst
          obtain ⟨bq, oq, rfl, hbq, _⟩ := fr_at (j := 0) (f := endF ys) hf0.row rfl
          have HS0 := Lib.hid hs0
          have HF0 := Lib.hid hf0
          have HBase : Hid (w1.heap.size ≤ wo.heap.size) := Lib.hid hs0.rcv.bs
          clear hs0 hf0
          go_loopg [14, 15] 1 (fun q s14 s15 wi => ∃ i is, i ≤ 1 ∧ q = 1 - i ∧ s15 = .int .i64 (i : Nat) ∧ s14 = .bool is ∧ FrAt wi w.heap.size (some ⟨bq, oq, none⟩) 1 c [endF ys] ∧ ((i = 0 ∧ is = false ∧ Sess w wi gs gr w1.heap.size (sndAt A1 c1 ys (segs ys) mm true) ⟨127, 1, 0, la0, V0, pads ys (segs ys), 0⟩ ∧ Blk wi wo.heap.size (frameC fun _ => 0) 30) ∨ (i = 1 ∧ is = true ∧ ∃ V, Sess w wi gs gr w1.heap.size (sndAt A1 c1 ys (segs ys) mm true) ⟨127, 2, 0, la0, V, ys, 0⟩ ∧ Blk wi wo.heap.size #[.int .u8 161, .int .u8 0, .int .u8 0, .int .u8 0, .int .u8 0, .int .u8 0, .int .u8 0, .int .u8 0] 30)))
          case atStart => exact ⟨0, false, by omega, rfl, rfl, rfl, HF0.out.new ((Keep.refl Own.Zero wo).alloc _), .inl ⟨rfl, rfl, HS0.out.new ((Keep.refl Own.Zero wo).alloc _), Blk.new wo _ _⟩⟩
          case round =>
            obtain ⟨i, is, him, hqi, rfl, rfl, hfr, hwi⟩ := hrel
            have HQi := Lib.hid hqi
            have HFr := Lib.hid hfr
            clear hqi hfr
            rcases hwi with ⟨hi0, rfl, hs, hba⟩ | ⟨hi0, rfl, V, hs, hba⟩
            · have hi1 : (i : Int) < 1 := by omega
              have hsz1 : 1 ≤ SZ := sz0
              have hi2 : (i : Int) < (SZ : Int) := by omega
              have HS := Lib.hid hs
              have HBa := Lib.hid hba
              obtain ⟨F, hF⟩ : ∃ F, F = endF ys := ⟨_, rfl⟩
              have HFf := Lib.hid hF
              obtain ⟨b', o', hb', _, hz⟩ := fr_at (j := i) (f := endF ys) HFr.out.row (by rw [hi0]; rfl)
              cases hb'
              rw [← hF] at hz
              have x0 := hz 0 (by omega)
              have x1 := hz 1 (by omega)
              have x2 := hz 2 (by omega)
              have x3 := hz 3 (by omega)
              have x4 := hz 4 (by omega)
              have x5 := hz 5 (by omega)
              have x6 := hz 6 (by omega)
              have x7 := hz 7 (by omega)
              simp only [← Nat.add_assoc, Nat.add_zero] at x0 x1 x2 x3 x4 x5 x6 x7
              have HI0 := Lib.hid hi0
              clear hs hba hF hz hi0 hsz1
              go_wp2_with fail
              have hcall := feed_end HS.out.rcv HI.out.byte (by rw [← HN.out]; omega)
              rw [← HFf.out] at hcall
              refine hcall.mono ?_
              rintro e w6 ⟨rfl, V6, hp⟩
              have hl6 := HS.out.laid HBa.out HBase.out hp.out.1 hp.out.2
              have HS6 := Lib.hid hl6.1
              have HB6 := Lib.hid hl6.2
              have HKr := Lib.hid hp.out.2
              clear hcall hp hl6 x0 x1 x2 x3 x4 x5 x6 x7
              rw [show aggF (fun k => if k = 0 then 161 else 0) = .agg #[.int .u8 161, .int .u8 0, .int .u8 0, .int .u8 0, .int .u8 0, .int .u8 0, .int .u8 0, .int .u8 0] from rfl]
              have z0 := (HB6.out).cell 0
              have z1 := (HB6.out).cell 1
              have z2 := (HB6.out).cell 2
              have z3 := (HB6.out).cell 3
              have z4 := (HB6.out).cell 4
              have z5 := (HB6.out).cell 5
              have z6 := (HB6.out).cell 6
              have z7 := (HB6.out).cell 7
              have zf0 := (HB6.out).frozen 0
              have zf1 := (HB6.out).frozen 1
              have zf2 := (HB6.out).frozen 2
              have zf3 := (HB6.out).frozen 3
              have zf4 := (HB6.out).frozen 4
              have zf5 := (HB6.out).frozen 5
              have zf6 := (HB6.out).frozen 6
              have zf7 := (HB6.out).frozen 7
              simp only [frameC, List.getElem?_toArray, List.getElem?_cons_zero, List.getElem?_cons_succ] at z0 z1 z2 z3 z4 z5 z6 z7
              go_wp2_with fail
              have HK7 : Hid (Keep (Own.One wo.heap.size) w6 _) := Lib.hid (keep8 (Keep.refl (Own.One wo.heap.size) w6) (.inl rfl) (.int .u8 161) (.int .u8 0) (.int .u8 0) (.int .u8 0) (.int .u8 0) (.int .u8 0) (.int .u8 0) (.int .u8 0))
              have hfr7 := (HFr.out.rstep HS.out.rcv HKr.out).far (fun a ha => by cases ha; exact Nat.ne_of_lt hbq) HK7.out
              have hs7 := HS6.out.far HB6.out HBase.out HK7.out
              have hb7 := blk8 HB6.out (.int .u8 161) (.int .u8 0) (.int .u8 0) (.int .u8 0) (.int .u8 0) (.int .u8 0) (.int .u8 0) (.int .u8 0)
              go_roundg (1 - (i + 1))
              case measure => rw [HQi.out]; have := HI0.out; omega
              case rel => exact ⟨i + 1, true, by have := HI0.out; omega, rfl, by go_num, rfl, hfr7, .inr ⟨by rw [HI0.out], rfl, V6, hs7, hb7⟩⟩
            · have hnl : ¬ (i : Int) < 1 := by omega
              have HS := Lib.hid hs
              have HBa := Lib.hid hba
              clear hs hba hi0
              have z0 := (HBa.out).cell 0
              have z1 := (HBa.out).cell 1
              have z2 := (HBa.out).cell 2
              have z3 := (HBa.out).cell 3
              have z4 := (HBa.out).cell 4
              have z5 := (HBa.out).cell 5
              have z6 := (HBa.out).cell 6
              have z7 := (HBa.out).cell 7
              have zf0 := (HBa.out).frozen 0
              have zf1 := (HBa.out).frozen 1
              have zf2 := (HBa.out).frozen 2
              have zf3 := (HBa.out).frozen 3
              have zf4 := (HBa.out).frozen 4
              have zf5 := (HBa.out).frozen 5
              have zf6 := (HBa.out).frozen 6
              have zf7 := (HBa.out).frozen 7
              simp only [List.getElem?_toArray, List.getElem?_cons_zero, List.getElem?_cons_succ] at z0 z1 z2 z3 z4 z5 z6 z7
              go_wp2_with fail
              refine (Feed_taken HS.out.snd rfl rfl rfl 0 0 0 0 0 0 0).mono ?_
              rintro e w8 ⟨rfl, hp8⟩
              have HS8 := Lib.hid (HS.out.sstep hp8.out.1 rfl hp8.out.2)
              clear hp8 z0 z1 z2 z3 z4 z5 z6 z7 zf0 zf1 zf2 zf3 zf4 zf5 zf6 zf7
              go_wp2_with fail
              refine (SDone_is HS8.out.snd).mono ?_
              rintro e w9 ⟨rfl, hk9⟩
              have HS9 := Lib.hid (HS8.out.new hk9.out)
              clear hk9
              rw [show (sndAt A1 c1 ys (segs ys) mm true).code = 0 from rfl]
              go_wp2_with fail
              refine (RDone_over HS9.out.rcv rfl).mono ?_
              rintro e w10 ⟨A10, c10, rfl, hp10⟩
              have HGot := Lib.hid hp10.out.1
              have HK10 : Hid (Keep Own.Zero w w10) := Lib.hid (HS9.out.keep.trans hp10.out.2 (fun _ h => h.elim))
              have HB10 : Hid (Row w10 A (ints .u8 ys)) := Lib.hid (HI.out.row.keep HK10.out (fun _ _ _ => id))
              clear hp10
              have hs1 : Sem.run Try.prog (convert 22 9 (.slice A10 n c10)) w10 = .ok (.string (str ys)) w10 := run_str under22 under5 under9 HGot.out.row n HN.out
              have hs2 : Sem.run Try.prog (convert 22 9 (.slice A n cA)) w10 = .ok (.string (str ys)) w10 := run_str under22 under5 under9 HB10.out n HN.out
              rw [show (⟨127, 2, 0, la0, V, ys, 0⟩ : Rcv).xs = ys from rfl, show (⟨127, 2, 0, la0, V, ys, 0⟩ : Rcv).code = 0 from rfl, ← HN.out]
              go_wp2_with ((with_reducible refine (lives_is _).mono ?_); rintro e w11 ⟨rfl, hk11⟩)
              go_ret
              exact ⟨rfl, HK10.out.trans hk11.out (fun _ h => h.elim)⟩
end Go.Proofs.Ytdmomhbimhggiaa.Block
