/- BlockTold: the law's walk. -/
import Derived.Test.YtdmomhbimhggiaaBlockJ
import Derived.Test.YtdmomhbimhggiaaBlockQ
namespace Go.Proofs.Ytdmomhbimhggiaa.Block
open Go.RowKit Go.Proofs.Ytdmomhbimhggiaa.Own Go.Proofs.Ytdmomhbimhggiaa.Crc
theorem xor_byte {x z : Int} (x0 : 0 ≤ x) (x1 : x ≤ 255) (z0 : 0 ≤ z) (z1 : z ≤ 255) : 0 ≤ bits .xor .u8 x z ∧ bits .xor .u8 x z ≤ 255 ∧ (bits .xor .u8 x z ≠ x → z ≠ 0) := by
  obtain ⟨x, rfl⟩ : ∃ n : Nat, x = n := ⟨x.toNat, by omega⟩
  obtain ⟨z, rfl⟩ : ∃ n : Nat, z = n := ⟨z.toNat, by omega⟩
  rw [u8_xor_nat x z (by omega) (by omega)]
  have hx : x ^^^ z < 2 ^ 8 := Nat.xor_lt_two_pow (by omega) (by omega)
  refine ⟨by omega, by omega, ?_⟩
  intro h e
  obtain rfl : z = 0 := by omega
  simp at h
def ToldSt (w0 wr : World) (gs gr base : Nat) (A1 : Option Addr) (c1 : Nat) (bs : List Int) (a q : Nat) (y : Int) (p m : Nat) (A : Option Addr) (c : Nat) : Prop :=
  ∃ la V, Sess w0 wr gs gr base (sndAt A1 c1 bs p m false) ⟨127, 0, 0, la, V, padsB bs a q y p, 0⟩ ∧ FrAt wr w0.heap.size A m c (framesF bs p m)
def ToldEnd (w0 wr : World) (gs gr base : Nat) (A1 : Option Addr) (c1 : Nat) (bs : List Int) (a q : Nat) (y : Int) (m : Nat) (A : Option Addr) (c : Nat) : Prop :=
  ∃ la V mm, m = 1 ∧ Sess w0 wr gs gr base (sndAt A1 c1 bs (segs bs) mm true) ⟨127, 1, 0, la, V, padsB bs a q y (segs bs), 0⟩ ∧ FrAt wr w0.heap.size A 1 c [endF bs]
def ToldIn (w0 wi : World) (gs gr base : Nat) (A1 : Option Addr) (c1 : Nat) (bs : List Int) (a q : Nat) (y : Int) (p m i ba : Nat) (is : Bool) : Prop :=
  (is = false ∧ p + i < segs bs ∧ i < 127 ∧ ∃ la V G, Sess w0 wi gs gr base (sndAt A1 c1 bs p m false) ⟨127, 0, i, la, V, padsB bs a q y (p + i), 0⟩ ∧ Blk wi ba (frameC G) 30) ∨
  (is = true ∧ i = m ∧ ∃ V, Sess w0 wi gs gr base (sndAt A1 c1 bs p m false) ⟨127, if p + m = segs bs then 1 else 0, 0, ansF m 127, V, padsB bs a q y (p + m), 0⟩ ∧ Blk wi ba #[.int .u8 162, .int .u8 m, .int .u8 127, .int .u8 0, .int .u8 0, .int .u8 0, .int .u8 0, .int .u8 0] 30)
set_option maxRecDepth 100000 in
set_option maxHeartbeats 16000000 in
theorem told_walk (A : Option Addr) (cA : Nat) (xs : List Int) (atn : Nat) (hat : atn ≤ 65535) (by' : Int) (by0 : 0 ≤ by') (by1 : by' ≤ 255) (w : World) (h : In w A cA xs) :
    Calls Try.prog 4 #[.slice A xs.length cA, .int .u16 atn, .int .u8 by'] w fun e w' => e = .returned (.bool true) ∧ Keep Own.Zero w w' := by
  have hlc := h.le
  obtain ⟨m, hm⟩ : ∃ m, m = xs.length := ⟨_, rfl⟩
  rw [← hm] at hlc ⊢
  obtain ⟨a, ha⟩ : ∃ a, a = atn / 7 := ⟨_, rfl⟩
  obtain ⟨q, hq⟩ : ∃ q, q = atn % 7 := ⟨_, rfl⟩
  have HQ7 := Lib.hid hq
  have HAa := Lib.hid ha
  have hq7 : q < 7 := by omega
  have hq8 : q = 0 ∨ q = 1 ∨ q = 2 ∨ q = 3 ∨ q = 4 ∨ q = 5 ∨ q = 6 := by omega
  have hdt : (atn : Int).tdiv 7 = (a : Int) := by rw [Int.tdiv_eq_ediv_of_nonneg (by omega)]; omega
  have hdv : (atn : Int) / 7 = (a : Int) := by omega
  have hmt : (atn : Int).tmod 7 = (atn : Int) % 7 := Int.tmod_eq_emod_of_nonneg (by omega)
  by_cases hl : 3000 < m
  · have hl2 : (3000 : Int) < (m : Int) := by omega
    obtain ⟨ys, hys⟩ : ∃ ys, ys = xs.take 3000 := ⟨_, rfl⟩
    obtain ⟨n, hn⟩ : ∃ n : Nat, n = 3000 := ⟨_, rfl⟩
    have HI : Hid (In w A cA ys) := Lib.hid (by rw [hys]; exact h.take 3000)
    have HN : Hid (n = ys.length) := Lib.hid (by rw [hys, List.length_take, hn]; omega)
    have hnb : n ≤ 3000 := by omega
    have hsl := fun X => slice22_h A m cA n (by omega) hlc X
    have HHn : Hid (n = 3000) := Lib.hid hn
    have hsl' : ∀ X, Sem.run Try.prog (Instr.slice 22 (.slice A m cA) none (some (.int .i64 3000)) none) X = .ok (.slice A n cA) X := fun X => by
      have := hsl X
      rw [hn] at this ⊢
      exact this
    clear h hm hys hn hsl ha hq
    obtain ⟨y, hy⟩ : ∃ y, y = bits .xor .u8 (ys.getD (7 * a + q) 0) by' := ⟨_, rfl⟩
    have HYy := Lib.hid hy
    have HYb : Hid (0 ≤ y ∧ y ≤ 255) := Lib.hid (by
      have hb := getD_byte HI.out.byte (7 * a + q)
      have := xor_byte hb.1 hb.2 by0 by1
      rw [hy]
      exact ⟨this.1, this.2.1⟩)
    have hnd := hy
    clear hy
    go_enter Try.func4, Try.ntmps4
    have HR1 : Hid (Row (w.alloc (.cells #[] 5)) A (ints .u8 ys)) := Lib.hid (HI.out.row.keep ((Keep.refl Own.Zero w).alloc (.cells #[] 5)) (fun _ _ _ => id))
    go_wp2_with (at_builtin; refine app_own rfl (.tmp 30) (.tmp 31) 22 rfl w.heap.size 5 (.int .u8 0) 1 1 under22 info5 rfl (by decide) (.slice (some ⟨w.heap.size, 0, none⟩) 0 0) 0 [] rfl (own_empty 1 (Blk.new w _ _)) A n cA (ints .u8 ys) rfl (by rw [ints_length, HN.out]; omega) HI.out.nil HR1.out (ints_one _ _) (by unfold maxLen; omega) (by omega) (by simp) ?_; intro v2 w2 hown2 hgr2)
    have HO2 : Hid (w2.ownsRow w.heap.size 5 1 v2 n (ints .u8 ys)) := Lib.hid (by have h := hown2; rw [Nat.zero_add, List.nil_append] at h; exact h)
    have HK2 : Hid (Keep Own.Zero w w2) := Lib.hid (((Keep.refl Own.Zero w).alloc _).grown hgr2 (fun k hk => .inr (by cases hk; exact Nat.le_refl _)))
    clear hown2 hgr2
    obtain ⟨A2, c2, rfl, hi2, _⟩ := own_in HO2.out HN.out HI.out.byte
    have HI2 := Lib.hid hi2
    clear hi2
    go_wp2_with fail
    refine (NewSender_ok HI2.out (by rw [← HN.out]; omega) n HN.out).mono ?_
    rintro e w1 ⟨gs, A1, c1, rfl, hp1⟩
    have HP1 := hp1
    have HA1 : Hid (∀ a, A1 = some a → a.block < w1.heap.size) := Lib.hid (fun a ha => (HP1.out.2.2.2 a ha).2)
    clear hp1
    go_wp2_with fail
    refine (NewReceiver_ok w1 127 (by decide) (by decide)).mono ?_
    rintro e w3 ⟨gr, rfl, hp2⟩
    have HP2 := hp2
    clear hp2
    go_wp2_with fail
    refine (Begin_ok (HP1.out.1.keep HP2.out.2.1 id (fun _ _ => id)) rfl rfl 127 (by decide) (by decide) _ rfl).mono ?_
    rintro e w5 ⟨A5, c5, rfl, hp3⟩
    have HD5 : Hid (DataSt w w5 gs gr w1.heap.size A1 c1 ys 127 0 (min 127 (segs ys)) A5 c5) := Lib.hid (by
      have hS2 : Sess w w3 gs gr w1.heap.size ⟨A1, c1, ys, 0, 0, false, false, false, 0⟩ (rAt 127 0 0 ys (fun _ => 0) (.slice none 0 0)) :=
        ⟨HP1.out.1.keep HP2.out.2.1 id (fun _ _ => id), HP2.out.1, HP1.out.1.blk.lt, HA1.out, HP2.out.2.2, (HK2.out.trans HP1.out.2.1 (fun _ h => h.elim)).trans HP2.out.2.1 (fun _ h => h.elim), Nat.le_trans HK2.out.size HP1.out.2.2.1⟩
      exact ⟨_, _, hS2.sstep hp3.out.1 rfl hp3.out.2.2, own_mono hp3.out.2.1 hS2.keep.size, (segs_bound ys).2.2⟩)
    clear HP1 HP2 hp3 HA1 HO2 HI2
    obtain ⟨m0, hm0⟩ : ∃ m0, m0 = min 127 (segs ys) := ⟨_, rfl⟩
    rw [show (⟨A1, c1, ys, 0, 0, false, false, false, 0⟩ : Snd).bs = ys from rfl, ← hm0]
    rw [← hm0] at HD5
    have HM0 := Lib.hid hm0
    clear hm0
    go_wp2_with fail
    have HT5 : Hid (ToldSt w w5 gs gr w1.heap.size A1 c1 ys a q y (127 * 0) m0 A5 c5) := Lib.hid (by
      obtain ⟨la, V, hs, hf, _⟩ := HD5.out
      refine ⟨la, V, ?_, hf⟩
      have e : padsB ys a q y (127 * 0) = pads ys (0 + 0) := by
        unfold padsB
        rw [if_neg (by omega)]
      rw [e]
      exact hs)
    clear HD5
    clear hnd
    go_loopg [11, 13, 14] 2000 (fun q' s11 s13 s14 wr => ∃ bl Af c m kn, q' = 2000 - bl ∧ bl ≤ segs ys ∧ s14 = .int .i64 (bl : Nat) ∧ s13 = .int .i64 (kn : Nat) ∧ s11 = .slice Af m c ∧
      ((kn = 127 * bl ∧ ToldSt w wr gs gr w1.heap.size A1 c1 ys a q y (127 * bl) m Af c ∧ 127 * bl < segs ys ∧ m = min 127 (segs ys - 127 * bl)) ∨ (kn ≤ segs ys ∧ ToldEnd w wr gs gr w1.heap.size A1 c1 ys a q y m Af c)))
    case atStart => exact ⟨0, A5, c5, m0, 0, rfl, Nat.zero_le _, rfl, rfl, rfl, .inl ⟨rfl, HT5.out, (segs_bound ys).2.2, HM0.out⟩⟩
    case round =>
      obtain ⟨bl, Af, c, m, kn, hq, hb2, rfl, rfl, rfl, hst⟩ := hrel
      have HQ := Lib.hid hq
      have sb := segs_bound ys
      rw [← HN.out] at sb
      obtain ⟨N, hN⟩ : ∃ N, N = segs ys := ⟨_, rfl⟩
      rw [← hN] at hb2 sb
      have hNb : N ≤ 430 := by omega
      have HNn := Lib.hid hN
      have hlt : (bl : Int) < 2000 := by omega
      clear hq hN sb
      obtain ⟨wo, hwo⟩ : ∃ x, x = wr := ⟨_, rfl⟩
      subst hwo
      rcases hst with ⟨hkn, hst, hpN, hm⟩ | ⟨hkn, hst⟩
      · obtain ⟨la0, V0, hs0, hf0⟩ := hst
        obtain ⟨p, hp⟩ : ∃ p, p = 127 * bl := ⟨_, rfl⟩
        rw [← hp] at hkn hs0 hf0 hpN hm
        rw [← HNn.out] at hpN hm
        have HPp := Lib.hid hp
        have hm1 : 1 ≤ m := by omega
        have hmk : m ≤ 127 := by omega
        have hmN : p + m ≤ N := by omega
        obtain ⟨bq, oq, rfl, hbq, _⟩ := fr_at hf0.row (framesF_get (bs := ys) (p := p) (show 0 < m by omega))
        have HS0 := Lib.hid hs0
        have HF0' := Lib.hid hf0
        have HMm := Lib.hid hm
        have HBase : Hid (w1.heap.size ≤ wo.heap.size) := Lib.hid hs0.rcv.bs
        have HKn := Lib.hid hkn
        clear hs0 hf0 hm hp hkn
        go_wp2_with fail
        go_loopg [13, 16, 17] m (fun q' s13 s16 s17 wi => ∃ i kk is, i ≤ m ∧ q' = m - i ∧ s17 = .int .i64 (i : Nat) ∧ s13 = .int .i64 (kk : Nat) ∧ kk = p + i ∧ s16 = .bool is ∧ FrAt wi w.heap.size (some ⟨bq, oq, none⟩) m c (framesF ys p m) ∧ ToldIn w wi gs gr w1.heap.size A1 c1 ys a q y p m i wo.heap.size is)
        case atStart => exact ⟨0, kn, false, Nat.zero_le _, rfl, rfl, rfl, HKn.out, rfl, HF0'.out.new ((Keep.refl Own.Zero wo).alloc _), .inl ⟨rfl, by rw [← HNn.out]; exact hpN, by decide, la0, V0, fun _ => 0, HS0.out.new ((Keep.refl Own.Zero wo).alloc _), Blk.new wo _ _⟩⟩
        case round =>
          obtain ⟨i, kk, is, him, hqi, rfl, rfl, hkk, rfl, hfr, hwi⟩ := hrel
          have HQi := Lib.hid hqi
          have HFr := Lib.hid hfr
          have HKk := Lib.hid hkk
          have hkb : kk ≤ 1000 := by omega
          clear hqi hfr
          by_cases hilt : i < m
          · have hi1 : (i : Int) < (m : Int) := by omega
            have hi0 : (0 : Int) ≤ (i : Int) := by omega
            rcases hwi with ⟨rfl, hpiN, hi127, la, V, G, hs, hba⟩ | ⟨rfl, him2, _⟩
            · have HS := Lib.hid hs
              have HBa := Lib.hid hba
              obtain ⟨F, hF⟩ : ∃ F, F = segF ys (p + i) i := ⟨_, rfl⟩
              have HFf := Lib.hid hF
              have HF0 : Hid (segF ys (p + i) i 0 = ((i + 1 : Nat) : Int) + (if decide (p + i + 1 = segs ys) = true then 128 else 0)) := Lib.hid (by
                unfold segF
                rw [if_pos rfl]
                simp only [decide_eq_true_eq]
                omega)
              obtain ⟨b', o', hb', _, hz⟩ := fr_at HFr.out.row (framesF_get (bs := ys) (p := p) hilt)
              cases hb'
              rw [← hF] at hz
              have x0 := hz 0 (by omega)
              have x1 := hz 1 (by omega)
              have x2 := hz 2 (by omega)
              have x3 := hz 3 (by omega)
              have x4 := hz 4 (by omega)
              have x5 := hz 5 (by omega)
              have x6 := hz 6 (by omega)
              have x7 := hz 7 (by omega)
              simp only [← Nat.add_assoc, Nat.add_zero] at x0 x1 x2 x3 x4 x5 x6 x7
              rw [← HNn.out] at hpiN
              clear hs hba hF hz
              go_wp2_with fail
              have HWo : Hid (wo.heap.size < wr.heap.size) := Lib.hid HBa.out.lt
              have HBs2 : Hid (w1.heap.size ≤ wr.heap.size) := Lib.hid HS.out.rcv.bs
              refine (SDone_is (HS.out.new ((Keep.refl Own.Zero wr).alloc _)).snd).mono ?_
              rintro e w17 ⟨rfl, hk17⟩
              have HK17 : Hid (Keep Own.Zero wr w17) := Lib.hid (((Keep.refl Own.Zero wr).alloc _).trans hk17.out (fun _ h => h.elim))
              have HBx : Hid (Blk w17 wr.heap.size #[.int .u8 (F 0), .int .u8 (F 1), .int .u8 (F 2), .int .u8 (F 3), .int .u8 (F 4), .int .u8 (F 5), .int .u8 (F 6), .int .u8 (F 7)] 30) := Lib.hid ((Blk.new wr _ _).keep hk17.out id)
              have HS17 := Lib.hid (HS.out.new HK17.out)
              have HBa17 := Lib.hid (HBa.out.keep HK17.out id)
              have HFr17 := Lib.hid (HFr.out.new HK17.out)
              rw [show (sndAt A1 c1 ys p m false).code = 0 from rfl, show (sndAt A1 c1 ys p m false).done = false from rfl]
              clear hk17 x0 x1 x2 x3 x4 x5 x6 x7
              have y0 : w17.cell? ⟨wr.heap.size, 0, none⟩ = some (.int .u8 (F 0)) := HBx.out.cell 0
              have y1 : w17.cell? ⟨wr.heap.size, 1, none⟩ = some (.int .u8 (F 1)) := HBx.out.cell 1
              have y2 : w17.cell? ⟨wr.heap.size, 2, none⟩ = some (.int .u8 (F 2)) := HBx.out.cell 2
              have y3 : w17.cell? ⟨wr.heap.size, 3, none⟩ = some (.int .u8 (F 3)) := HBx.out.cell 3
              have y4 : w17.cell? ⟨wr.heap.size, 4, none⟩ = some (.int .u8 (F 4)) := HBx.out.cell 4
              have y5 : w17.cell? ⟨wr.heap.size, 5, none⟩ = some (.int .u8 (F 5)) := HBx.out.cell 5
              have y6 : w17.cell? ⟨wr.heap.size, 6, none⟩ = some (.int .u8 (F 6)) := HBx.out.cell 6
              have y7 : w17.cell? ⟨wr.heap.size, 7, none⟩ = some (.int .u8 (F 7)) := HBx.out.cell 7
              have HXf : Hid (∀ j, w17.frozen? ⟨wr.heap.size, j, none⟩ = false) := Lib.hid (fun j => HBx.out.frozen j)
              by_cases hka : kk = a
              · have hka2 : (kk : Int) = (a : Int) := by omega
                by_cases hf193 : F 0 < 193
                · have HHa : Hid (p + i = a) := Lib.hid (by have := HKk.out; omega)
                  have HHit : Hid (hit ys a) := Lib.hid (by
                    have h1 := HHa.out
                    have h2 := HPp.out
                    refine ⟨by have := HNn.out; omega, ?_⟩
                    have h3 := HFf.out
                    rw [h3, h1] at hf193
                    rw [show a % 127 = i by omega]
                    exact hf193)
                  have HKa := Lib.hid hka
                  clear hka
                  have fj1 := HXf.out 1
                  have fj2 := HXf.out 2
                  have fj3 := HXf.out 3
                  have fj4 := HXf.out 4
                  have fj5 := HXf.out 5
                  have fj6 := HXf.out 6
                  have fj7 := HXf.out 7
                  rcases hq8 with rfl | rfl | rfl | rfl | rfl | rfl | rfl
                  · skip
                    have hmod : (atn : Int) % 7 = 0 := by have := HQ7.out; omega
                    have hxy : bits .xor .u8 (F 1) by' = y := by
                      rw [HYy.out, HFf.out]
                      unfold segF
                      rw [if_neg (by decide), HHa.out]
                    have HBent : Hid (∀ k, 0 ≤ bent F 1 y k ∧ bent F 1 y k ≤ 255) := Lib.hid (fun k => by
                      unfold bent
                      split
                      · exact HYb.out
                      · rw [HFf.out]
                        exact segF_byte HI.out.byte _ _ (by omega) k)
                    go_wp2_with fail
                    have HK19 : Hid (Keep (Own.One wr.heap.size) w17 (w17.setCell ⟨wr.heap.size, 1, none⟩ (.int .u8 y))) := Lib.hid ((Keep.refl (Own.One wr.heap.size) w17).set1 1 _)
                    have HS19 := Lib.hid (HS17.out.far HBx.out HBs2.out HK19.out)
                    have HBa19 := Lib.hid (HBa17.out.keep HK19.out (fun e => by have e' : wo.heap.size = wr.heap.size := e; have := HWo.out; omega))
                    have HFr19 := Lib.hid (HFr17.out.far (fun a ha => by cases ha; have := HWo.out; exact Nat.ne_of_lt (Nat.lt_trans hbq this)) HK19.out)
                    have hcall := feed_any (HS19.out).rcv (bent F 1 y) (HBent.out) (by omega) (decide (p + i + 1 = segs ys)) (by show F 0 = _; rw [HFf.out]; exact HF0.out) (by rw [padsB_length]; omega)
                    refine hcall.mono ?_
                    rintro e w6 (⟨hc9, rfl, V6, hp⟩ | ⟨hc9, rfl, V6, hp⟩)
                    · have hl6 := (HS19.out).laid (HBa19.out) HBase.out hp.out.1 hp.out.2
                      have HF6 := Lib.hid ((HFr19.out).rstep (HS19.out).rcv hp.out.2)
                      have him1 : i + 1 = m := by
                        have := HMm.out
                        have := HNn.out
                        rw [decide_eq_true_eq] at hc9
                        omega
                      have HX6 := (show padsB ys a 0 y (p + i) ++ seven (bent F 1 y) = padsB ys a 0 y (p + (i + 1)) by rw [HFf.out, ← Nat.add_assoc, HHa.out]; exact (padsB_hit (by omega) HHit.out i).symm)
                      rw [HX6, him1] at hl6
                      have HS6 : Hid (Sess w w6 gs gr w1.heap.size (sndAt A1 c1 ys p m false) ⟨127, if p + m = segs ys then 1 else 0, 0, ansF m 127, V6, padsB ys a 0 y (p + m), 0⟩) := Lib.hid (by
                        have h := hl6.1
                        rw [show p + i + 1 = p + m by omega] at h
                        simp only [decide_eq_true_eq] at h
                        exact h)
                      have HB6 := Lib.hid hl6.2
                      have HM1 := Lib.hid him1
                      clear hcall hp hl6 hc9 HX6 him1
                      rw [HM1.out, aggF_ans]
                      have z0 := (HB6.out).cell 0
                      have z1 := (HB6.out).cell 1
                      have z2 := (HB6.out).cell 2
                      have z3 := (HB6.out).cell 3
                      have z4 := (HB6.out).cell 4
                      have z5 := (HB6.out).cell 5
                      have z6 := (HB6.out).cell 6
                      have z7 := (HB6.out).cell 7
                      have zf0 := (HB6.out).frozen 0
                      have zf1 := (HB6.out).frozen 1
                      have zf2 := (HB6.out).frozen 2
                      have zf3 := (HB6.out).frozen 3
                      have zf4 := (HB6.out).frozen 4
                      have zf5 := (HB6.out).frozen 5
                      have zf6 := (HB6.out).frozen 6
                      have zf7 := (HB6.out).frozen 7
                      simp only [frameC, List.getElem?_toArray, List.getElem?_cons_zero, List.getElem?_cons_succ] at z0 z1 z2 z3 z4 z5 z6 z7
                      go_wp2_with fail
                      have HK7 : Hid (Keep (Own.One wo.heap.size) w6 _) := Lib.hid (keep8 (Keep.refl (Own.One wo.heap.size) w6) (.inl rfl) (.int .u8 162) (.int .u8 m) (.int .u8 127) (.int .u8 0) (.int .u8 0) (.int .u8 0) (.int .u8 0) (.int .u8 0))
                      have hfr7 := HF6.out.far (fun a ha => by cases ha; exact Nat.ne_of_lt hbq) HK7.out
                      have hs7 := HS6.out.far HB6.out HBase.out HK7.out
                      have hb7 := blk8 HB6.out (.int .u8 162) (.int .u8 m) (.int .u8 127) (.int .u8 0) (.int .u8 0) (.int .u8 0) (.int .u8 0) (.int .u8 0)
                      go_roundg (m - (i + 1))
                      case measure => rw [HQi.out]; omega
                      case rel => exact ⟨i + 1, kk + 1, true, hilt, rfl, by go_num, by go_num, by have := HKk.out; omega, rfl, hfr7, .inr ⟨rfl, HM1.out, V6, hs7, hb7⟩⟩
                    · have hl6 := (HS19.out).laid (HBa19.out) HBase.out hp.out.1 hp.out.2
                      have HF6 := Lib.hid ((HFr19.out).rstep (HS19.out).rcv hp.out.2)
                      have hlt6 : p + (i + 1) < segs ys ∧ i + 1 < 127 := by
                        have := HNn.out
                        rw [decide_eq_true_eq] at hc9
                        omega
                      have HLt := Lib.hid hlt6
                      have HX6 := (show padsB ys a 0 y (p + i) ++ seven (bent F 1 y) = padsB ys a 0 y (p + (i + 1)) by rw [HFf.out, ← Nat.add_assoc, HHa.out]; exact (padsB_hit (by omega) HHit.out i).symm)
                      rw [HX6] at hl6
                      have HS6 := Lib.hid hl6.1
                      have HB6 := Lib.hid hl6.2
                      clear hcall hp hl6 hc9 HX6 hlt6
                      rw [aggF_0]
                      have z0 := (HB6.out).cell 0
                      have z1 := (HB6.out).cell 1
                      have z2 := (HB6.out).cell 2
                      have z3 := (HB6.out).cell 3
                      have z4 := (HB6.out).cell 4
                      have z5 := (HB6.out).cell 5
                      have z6 := (HB6.out).cell 6
                      have z7 := (HB6.out).cell 7
                      have zf0 := (HB6.out).frozen 0
                      have zf1 := (HB6.out).frozen 1
                      have zf2 := (HB6.out).frozen 2
                      have zf3 := (HB6.out).frozen 3
                      have zf4 := (HB6.out).frozen 4
                      have zf5 := (HB6.out).frozen 5
                      have zf6 := (HB6.out).frozen 6
                      have zf7 := (HB6.out).frozen 7
                      simp only [frameC, List.getElem?_toArray, List.getElem?_cons_zero, List.getElem?_cons_succ] at z0 z1 z2 z3 z4 z5 z6 z7
                      go_wp2_with fail
                      have HK7 : Hid (Keep (Own.One wo.heap.size) w6 _) := Lib.hid (keep8 (Keep.refl (Own.One wo.heap.size) w6) (.inl rfl) (.int .u8 0) (.int .u8 0) (.int .u8 0) (.int .u8 0) (.int .u8 0) (.int .u8 0) (.int .u8 0) (.int .u8 0))
                      have hfr7 := HF6.out.far (fun a ha => by cases ha; exact Nat.ne_of_lt hbq) HK7.out
                      have hs7 := HS6.out.far HB6.out HBase.out HK7.out
                      have hb7 := blk8 HB6.out (.int .u8 0) (.int .u8 0) (.int .u8 0) (.int .u8 0) (.int .u8 0) (.int .u8 0) (.int .u8 0) (.int .u8 0)
                      go_roundg (m - (i + 1))
                      case measure => rw [HQi.out]; omega
                      case rel => exact ⟨i + 1, kk + 1, false, hilt, rfl, by go_num, by go_num, by have := HKk.out; omega, rfl, hfr7, .inl ⟨rfl, HLt.out.1, HLt.out.2, la, V6, fun _ => 0, hs7, hb7⟩⟩
                  · skip
                    have hmod : (atn : Int) % 7 = 1 := by have := HQ7.out; omega
                    have hxy : bits .xor .u8 (F 2) by' = y := by
                      rw [HYy.out, HFf.out]
                      unfold segF
                      rw [if_neg (by decide), HHa.out]
                    have HBent : Hid (∀ k, 0 ≤ bent F 2 y k ∧ bent F 2 y k ≤ 255) := Lib.hid (fun k => by
                      unfold bent
                      split
                      · exact HYb.out
                      · rw [HFf.out]
                        exact segF_byte HI.out.byte _ _ (by omega) k)
                    go_wp2_with fail
                    have HK19 : Hid (Keep (Own.One wr.heap.size) w17 (w17.setCell ⟨wr.heap.size, 2, none⟩ (.int .u8 y))) := Lib.hid ((Keep.refl (Own.One wr.heap.size) w17).set1 2 _)
                    have HS19 := Lib.hid (HS17.out.far HBx.out HBs2.out HK19.out)
                    have HBa19 := Lib.hid (HBa17.out.keep HK19.out (fun e => by have e' : wo.heap.size = wr.heap.size := e; have := HWo.out; omega))
                    have HFr19 := Lib.hid (HFr17.out.far (fun a ha => by cases ha; have := HWo.out; exact Nat.ne_of_lt (Nat.lt_trans hbq this)) HK19.out)
                    have hcall := feed_any (HS19.out).rcv (bent F 2 y) (HBent.out) (by omega) (decide (p + i + 1 = segs ys)) (by show F 0 = _; rw [HFf.out]; exact HF0.out) (by rw [padsB_length]; omega)
                    refine hcall.mono ?_
                    rintro e w6 (⟨hc9, rfl, V6, hp⟩ | ⟨hc9, rfl, V6, hp⟩)
                    · have hl6 := (HS19.out).laid (HBa19.out) HBase.out hp.out.1 hp.out.2
                      have HF6 := Lib.hid ((HFr19.out).rstep (HS19.out).rcv hp.out.2)
                      have him1 : i + 1 = m := by
                        have := HMm.out
                        have := HNn.out
                        rw [decide_eq_true_eq] at hc9
                        omega
                      have HX6 := (show padsB ys a 1 y (p + i) ++ seven (bent F 2 y) = padsB ys a 1 y (p + (i + 1)) by rw [HFf.out, ← Nat.add_assoc, HHa.out]; exact (padsB_hit (by omega) HHit.out i).symm)
                      rw [HX6, him1] at hl6
                      have HS6 : Hid (Sess w w6 gs gr w1.heap.size (sndAt A1 c1 ys p m false) ⟨127, if p + m = segs ys then 1 else 0, 0, ansF m 127, V6, padsB ys a 1 y (p + m), 0⟩) := Lib.hid (by
                        have h := hl6.1
                        rw [show p + i + 1 = p + m by omega] at h
                        simp only [decide_eq_true_eq] at h
                        exact h)
                      have HB6 := Lib.hid hl6.2
                      have HM1 := Lib.hid him1
                      clear hcall hp hl6 hc9 HX6 him1
                      rw [HM1.out, aggF_ans]
                      have z0 := (HB6.out).cell 0
                      have z1 := (HB6.out).cell 1
                      have z2 := (HB6.out).cell 2
                      have z3 := (HB6.out).cell 3
                      have z4 := (HB6.out).cell 4
                      have z5 := (HB6.out).cell 5
                      have z6 := (HB6.out).cell 6
                      have z7 := (HB6.out).cell 7
                      have zf0 := (HB6.out).frozen 0
                      have zf1 := (HB6.out).frozen 1
                      have zf2 := (HB6.out).frozen 2
                      have zf3 := (HB6.out).frozen 3
                      have zf4 := (HB6.out).frozen 4
                      have zf5 := (HB6.out).frozen 5
                      have zf6 := (HB6.out).frozen 6
                      have zf7 := (HB6.out).frozen 7
                      simp only [frameC, List.getElem?_toArray, List.getElem?_cons_zero, List.getElem?_cons_succ] at z0 z1 z2 z3 z4 z5 z6 z7
                      go_wp2_with fail
                      have HK7 : Hid (Keep (Own.One wo.heap.size) w6 _) := Lib.hid (keep8 (Keep.refl (Own.One wo.heap.size) w6) (.inl rfl) (.int .u8 162) (.int .u8 m) (.int .u8 127) (.int .u8 0) (.int .u8 0) (.int .u8 0) (.int .u8 0) (.int .u8 0))
                      have hfr7 := HF6.out.far (fun a ha => by cases ha; exact Nat.ne_of_lt hbq) HK7.out
                      have hs7 := HS6.out.far HB6.out HBase.out HK7.out
                      have hb7 := blk8 HB6.out (.int .u8 162) (.int .u8 m) (.int .u8 127) (.int .u8 0) (.int .u8 0) (.int .u8 0) (.int .u8 0) (.int .u8 0)
                      go_roundg (m - (i + 1))
                      case measure => rw [HQi.out]; omega
                      case rel => exact ⟨i + 1, kk + 1, true, hilt, rfl, by go_num, by go_num, by have := HKk.out; omega, rfl, hfr7, .inr ⟨rfl, HM1.out, V6, hs7, hb7⟩⟩
                    · have hl6 := (HS19.out).laid (HBa19.out) HBase.out hp.out.1 hp.out.2
                      have HF6 := Lib.hid ((HFr19.out).rstep (HS19.out).rcv hp.out.2)
                      have hlt6 : p + (i + 1) < segs ys ∧ i + 1 < 127 := by
                        have := HNn.out
                        rw [decide_eq_true_eq] at hc9
                        omega
                      have HLt := Lib.hid hlt6
                      have HX6 := (show padsB ys a 1 y (p + i) ++ seven (bent F 2 y) = padsB ys a 1 y (p + (i + 1)) by rw [HFf.out, ← Nat.add_assoc, HHa.out]; exact (padsB_hit (by omega) HHit.out i).symm)
                      rw [HX6] at hl6
                      have HS6 := Lib.hid hl6.1
                      have HB6 := Lib.hid hl6.2
                      clear hcall hp hl6 hc9 HX6 hlt6
                      rw [aggF_0]
                      have z0 := (HB6.out).cell 0
                      have z1 := (HB6.out).cell 1
                      have z2 := (HB6.out).cell 2
                      have z3 := (HB6.out).cell 3
                      have z4 := (HB6.out).cell 4
                      have z5 := (HB6.out).cell 5
                      have z6 := (HB6.out).cell 6
                      have z7 := (HB6.out).cell 7
                      have zf0 := (HB6.out).frozen 0
                      have zf1 := (HB6.out).frozen 1
                      have zf2 := (HB6.out).frozen 2
                      have zf3 := (HB6.out).frozen 3
                      have zf4 := (HB6.out).frozen 4
                      have zf5 := (HB6.out).frozen 5
                      have zf6 := (HB6.out).frozen 6
                      have zf7 := (HB6.out).frozen 7
                      simp only [frameC, List.getElem?_toArray, List.getElem?_cons_zero, List.getElem?_cons_succ] at z0 z1 z2 z3 z4 z5 z6 z7
                      go_wp2_with fail
                      have HK7 : Hid (Keep (Own.One wo.heap.size) w6 _) := Lib.hid (keep8 (Keep.refl (Own.One wo.heap.size) w6) (.inl rfl) (.int .u8 0) (.int .u8 0) (.int .u8 0) (.int .u8 0) (.int .u8 0) (.int .u8 0) (.int .u8 0) (.int .u8 0))
                      have hfr7 := HF6.out.far (fun a ha => by cases ha; exact Nat.ne_of_lt hbq) HK7.out
                      have hs7 := HS6.out.far HB6.out HBase.out HK7.out
                      have hb7 := blk8 HB6.out (.int .u8 0) (.int .u8 0) (.int .u8 0) (.int .u8 0) (.int .u8 0) (.int .u8 0) (.int .u8 0) (.int .u8 0)
                      go_roundg (m - (i + 1))
                      case measure => rw [HQi.out]; omega
                      case rel => exact ⟨i + 1, kk + 1, false, hilt, rfl, by go_num, by go_num, by have := HKk.out; omega, rfl, hfr7, .inl ⟨rfl, HLt.out.1, HLt.out.2, la, V6, fun _ => 0, hs7, hb7⟩⟩
                  · skip
                    have hmod : (atn : Int) % 7 = 2 := by have := HQ7.out; omega
                    have hxy : bits .xor .u8 (F 3) by' = y := by
                      rw [HYy.out, HFf.out]
                      unfold segF
                      rw [if_neg (by decide), HHa.out]
                    have HBent : Hid (∀ k, 0 ≤ bent F 3 y k ∧ bent F 3 y k ≤ 255) := Lib.hid (fun k => by
                      unfold bent
                      split
                      · exact HYb.out
                      · rw [HFf.out]
                        exact segF_byte HI.out.byte _ _ (by omega) k)
                    go_wp2_with fail
                    have HK19 : Hid (Keep (Own.One wr.heap.size) w17 (w17.setCell ⟨wr.heap.size, 3, none⟩ (.int .u8 y))) := Lib.hid ((Keep.refl (Own.One wr.heap.size) w17).set1 3 _)
                    have HS19 := Lib.hid (HS17.out.far HBx.out HBs2.out HK19.out)
                    have HBa19 := Lib.hid (HBa17.out.keep HK19.out (fun e => by have e' : wo.heap.size = wr.heap.size := e; have := HWo.out; omega))
                    have HFr19 := Lib.hid (HFr17.out.far (fun a ha => by cases ha; have := HWo.out; exact Nat.ne_of_lt (Nat.lt_trans hbq this)) HK19.out)
                    have hcall := feed_any (HS19.out).rcv (bent F 3 y) (HBent.out) (by omega) (decide (p + i + 1 = segs ys)) (by show F 0 = _; rw [HFf.out]; exact HF0.out) (by rw [padsB_length]; omega)
                    refine hcall.mono ?_
                    rintro e w6 (⟨hc9, rfl, V6, hp⟩ | ⟨hc9, rfl, V6, hp⟩)
                    · have hl6 := (HS19.out).laid (HBa19.out) HBase.out hp.out.1 hp.out.2
                      have HF6 := Lib.hid ((HFr19.out).rstep (HS19.out).rcv hp.out.2)
                      have him1 : i + 1 = m := by
                        have := HMm.out
                        have := HNn.out
                        rw [decide_eq_true_eq] at hc9
                        omega
                      have HX6 := (show padsB ys a 2 y (p + i) ++ seven (bent F 3 y) = padsB ys a 2 y (p + (i + 1)) by rw [HFf.out, ← Nat.add_assoc, HHa.out]; exact (padsB_hit (by omega) HHit.out i).symm)
                      rw [HX6, him1] at hl6
                      have HS6 : Hid (Sess w w6 gs gr w1.heap.size (sndAt A1 c1 ys p m false) ⟨127, if p + m = segs ys then 1 else 0, 0, ansF m 127, V6, padsB ys a 2 y (p + m), 0⟩) := Lib.hid (by
                        have h := hl6.1
                        rw [show p + i + 1 = p + m by omega] at h
                        simp only [decide_eq_true_eq] at h
                        exact h)
                      have HB6 := Lib.hid hl6.2
                      have HM1 := Lib.hid him1
                      clear hcall hp hl6 hc9 HX6 him1
                      rw [HM1.out, aggF_ans]
                      have z0 := (HB6.out).cell 0
                      have z1 := (HB6.out).cell 1
                      have z2 := (HB6.out).cell 2
                      have z3 := (HB6.out).cell 3
                      have z4 := (HB6.out).cell 4
                      have z5 := (HB6.out).cell 5
                      have z6 := (HB6.out).cell 6
                      have z7 := (HB6.out).cell 7
                      have zf0 := (HB6.out).frozen 0
                      have zf1 := (HB6.out).frozen 1
                      have zf2 := (HB6.out).frozen 2
                      have zf3 := (HB6.out).frozen 3
                      have zf4 := (HB6.out).frozen 4
                      have zf5 := (HB6.out).frozen 5
                      have zf6 := (HB6.out).frozen 6
                      have zf7 := (HB6.out).frozen 7
                      simp only [frameC, List.getElem?_toArray, List.getElem?_cons_zero, List.getElem?_cons_succ] at z0 z1 z2 z3 z4 z5 z6 z7
                      go_wp2_with fail
                      have HK7 : Hid (Keep (Own.One wo.heap.size) w6 _) := Lib.hid (keep8 (Keep.refl (Own.One wo.heap.size) w6) (.inl rfl) (.int .u8 162) (.int .u8 m) (.int .u8 127) (.int .u8 0) (.int .u8 0) (.int .u8 0) (.int .u8 0) (.int .u8 0))
                      have hfr7 := HF6.out.far (fun a ha => by cases ha; exact Nat.ne_of_lt hbq) HK7.out
                      have hs7 := HS6.out.far HB6.out HBase.out HK7.out
                      have hb7 := blk8 HB6.out (.int .u8 162) (.int .u8 m) (.int .u8 127) (.int .u8 0) (.int .u8 0) (.int .u8 0) (.int .u8 0) (.int .u8 0)
                      go_roundg (m - (i + 1))
                      case measure => rw [HQi.out]; omega
                      case rel => exact ⟨i + 1, kk + 1, true, hilt, rfl, by go_num, by go_num, by have := HKk.out; omega, rfl, hfr7, .inr ⟨rfl, HM1.out, V6, hs7, hb7⟩⟩
                    · have hl6 := (HS19.out).laid (HBa19.out) HBase.out hp.out.1 hp.out.2
                      have HF6 := Lib.hid ((HFr19.out).rstep (HS19.out).rcv hp.out.2)
                      have hlt6 : p + (i + 1) < segs ys ∧ i + 1 < 127 := by
                        have := HNn.out
                        rw [decide_eq_true_eq] at hc9
                        omega
                      have HLt := Lib.hid hlt6
                      have HX6 := (show padsB ys a 2 y (p + i) ++ seven (bent F 3 y) = padsB ys a 2 y (p + (i + 1)) by rw [HFf.out, ← Nat.add_assoc, HHa.out]; exact (padsB_hit (by omega) HHit.out i).symm)
                      rw [HX6] at hl6
                      have HS6 := Lib.hid hl6.1
                      have HB6 := Lib.hid hl6.2
                      clear hcall hp hl6 hc9 HX6 hlt6
                      rw [aggF_0]
                      have z0 := (HB6.out).cell 0
                      have z1 := (HB6.out).cell 1
                      have z2 := (HB6.out).cell 2
                      have z3 := (HB6.out).cell 3
                      have z4 := (HB6.out).cell 4
                      have z5 := (HB6.out).cell 5
                      have z6 := (HB6.out).cell 6
                      have z7 := (HB6.out).cell 7
                      have zf0 := (HB6.out).frozen 0
                      have zf1 := (HB6.out).frozen 1
                      have zf2 := (HB6.out).frozen 2
                      have zf3 := (HB6.out).frozen 3
                      have zf4 := (HB6.out).frozen 4
                      have zf5 := (HB6.out).frozen 5
                      have zf6 := (HB6.out).frozen 6
                      have zf7 := (HB6.out).frozen 7
                      simp only [frameC, List.getElem?_toArray, List.getElem?_cons_zero, List.getElem?_cons_succ] at z0 z1 z2 z3 z4 z5 z6 z7
                      go_wp2_with fail
                      have HK7 : Hid (Keep (Own.One wo.heap.size) w6 _) := Lib.hid (keep8 (Keep.refl (Own.One wo.heap.size) w6) (.inl rfl) (.int .u8 0) (.int .u8 0) (.int .u8 0) (.int .u8 0) (.int .u8 0) (.int .u8 0) (.int .u8 0) (.int .u8 0))
                      have hfr7 := HF6.out.far (fun a ha => by cases ha; exact Nat.ne_of_lt hbq) HK7.out
                      have hs7 := HS6.out.far HB6.out HBase.out HK7.out
                      have hb7 := blk8 HB6.out (.int .u8 0) (.int .u8 0) (.int .u8 0) (.int .u8 0) (.int .u8 0) (.int .u8 0) (.int .u8 0) (.int .u8 0)
                      go_roundg (m - (i + 1))
                      case measure => rw [HQi.out]; omega
                      case rel => exact ⟨i + 1, kk + 1, false, hilt, rfl, by go_num, by go_num, by have := HKk.out; omega, rfl, hfr7, .inl ⟨rfl, HLt.out.1, HLt.out.2, la, V6, fun _ => 0, hs7, hb7⟩⟩
                  · skip
                    have hmod : (atn : Int) % 7 = 3 := by have := HQ7.out; omega
                    have hxy : bits .xor .u8 (F 4) by' = y := by
                      rw [HYy.out, HFf.out]
                      unfold segF
                      rw [if_neg (by decide), HHa.out]
                    have HBent : Hid (∀ k, 0 ≤ bent F 4 y k ∧ bent F 4 y k ≤ 255) := Lib.hid (fun k => by
                      unfold bent
                      split
                      · exact HYb.out
                      · rw [HFf.out]
                        exact segF_byte HI.out.byte _ _ (by omega) k)
                    go_wp2_with fail
                    have HK19 : Hid (Keep (Own.One wr.heap.size) w17 (w17.setCell ⟨wr.heap.size, 4, none⟩ (.int .u8 y))) := Lib.hid ((Keep.refl (Own.One wr.heap.size) w17).set1 4 _)
                    have HS19 := Lib.hid (HS17.out.far HBx.out HBs2.out HK19.out)
                    have HBa19 := Lib.hid (HBa17.out.keep HK19.out (fun e => by have e' : wo.heap.size = wr.heap.size := e; have := HWo.out; omega))
                    have HFr19 := Lib.hid (HFr17.out.far (fun a ha => by cases ha; have := HWo.out; exact Nat.ne_of_lt (Nat.lt_trans hbq this)) HK19.out)
                    have hcall := feed_any (HS19.out).rcv (bent F 4 y) (HBent.out) (by omega) (decide (p + i + 1 = segs ys)) (by show F 0 = _; rw [HFf.out]; exact HF0.out) (by rw [padsB_length]; omega)
                    refine hcall.mono ?_
                    rintro e w6 (⟨hc9, rfl, V6, hp⟩ | ⟨hc9, rfl, V6, hp⟩)
                    · have hl6 := (HS19.out).laid (HBa19.out) HBase.out hp.out.1 hp.out.2
                      have HF6 := Lib.hid ((HFr19.out).rstep (HS19.out).rcv hp.out.2)
                      have him1 : i + 1 = m := by
                        have := HMm.out
                        have := HNn.out
                        rw [decide_eq_true_eq] at hc9
                        omega
                      have HX6 := (show padsB ys a 3 y (p + i) ++ seven (bent F 4 y) = padsB ys a 3 y (p + (i + 1)) by rw [HFf.out, ← Nat.add_assoc, HHa.out]; exact (padsB_hit (by omega) HHit.out i).symm)
                      rw [HX6, him1] at hl6
                      have HS6 : Hid (Sess w w6 gs gr w1.heap.size (sndAt A1 c1 ys p m false) ⟨127, if p + m = segs ys then 1 else 0, 0, ansF m 127, V6, padsB ys a 3 y (p + m), 0⟩) := Lib.hid (by
                        have h := hl6.1
                        rw [show p + i + 1 = p + m by omega] at h
                        simp only [decide_eq_true_eq] at h
                        exact h)
                      have HB6 := Lib.hid hl6.2
                      have HM1 := Lib.hid him1
                      clear hcall hp hl6 hc9 HX6 him1
                      rw [HM1.out, aggF_ans]
                      have z0 := (HB6.out).cell 0
                      have z1 := (HB6.out).cell 1
                      have z2 := (HB6.out).cell 2
                      have z3 := (HB6.out).cell 3
                      have z4 := (HB6.out).cell 4
                      have z5 := (HB6.out).cell 5
                      have z6 := (HB6.out).cell 6
                      have z7 := (HB6.out).cell 7
                      have zf0 := (HB6.out).frozen 0
                      have zf1 := (HB6.out).frozen 1
                      have zf2 := (HB6.out).frozen 2
                      have zf3 := (HB6.out).frozen 3
                      have zf4 := (HB6.out).frozen 4
                      have zf5 := (HB6.out).frozen 5
                      have zf6 := (HB6.out).frozen 6
                      have zf7 := (HB6.out).frozen 7
                      simp only [frameC, List.getElem?_toArray, List.getElem?_cons_zero, List.getElem?_cons_succ] at z0 z1 z2 z3 z4 z5 z6 z7
                      go_wp2_with fail
                      have HK7 : Hid (Keep (Own.One wo.heap.size) w6 _) := Lib.hid (keep8 (Keep.refl (Own.One wo.heap.size) w6) (.inl rfl) (.int .u8 162) (.int .u8 m) (.int .u8 127) (.int .u8 0) (.int .u8 0) (.int .u8 0) (.int .u8 0) (.int .u8 0))
                      have hfr7 := HF6.out.far (fun a ha => by cases ha; exact Nat.ne_of_lt hbq) HK7.out
                      have hs7 := HS6.out.far HB6.out HBase.out HK7.out
                      have hb7 := blk8 HB6.out (.int .u8 162) (.int .u8 m) (.int .u8 127) (.int .u8 0) (.int .u8 0) (.int .u8 0) (.int .u8 0) (.int .u8 0)
                      go_roundg (m - (i + 1))
                      case measure => rw [HQi.out]; omega
                      case rel => exact ⟨i + 1, kk + 1, true, hilt, rfl, by go_num, by go_num, by have := HKk.out; omega, rfl, hfr7, .inr ⟨rfl, HM1.out, V6, hs7, hb7⟩⟩
                    · have hl6 := (HS19.out).laid (HBa19.out) HBase.out hp.out.1 hp.out.2
                      have HF6 := Lib.hid ((HFr19.out).rstep (HS19.out).rcv hp.out.2)
                      have hlt6 : p + (i + 1) < segs ys ∧ i + 1 < 127 := by
                        have := HNn.out
                        rw [decide_eq_true_eq] at hc9
                        omega
                      have HLt := Lib.hid hlt6
                      have HX6 := (show padsB ys a 3 y (p + i) ++ seven (bent F 4 y) = padsB ys a 3 y (p + (i + 1)) by rw [HFf.out, ← Nat.add_assoc, HHa.out]; exact (padsB_hit (by omega) HHit.out i).symm)
                      rw [HX6] at hl6
                      have HS6 := Lib.hid hl6.1
                      have HB6 := Lib.hid hl6.2
                      clear hcall hp hl6 hc9 HX6 hlt6
                      rw [aggF_0]
                      have z0 := (HB6.out).cell 0
                      have z1 := (HB6.out).cell 1
                      have z2 := (HB6.out).cell 2
                      have z3 := (HB6.out).cell 3
                      have z4 := (HB6.out).cell 4
                      have z5 := (HB6.out).cell 5
                      have z6 := (HB6.out).cell 6
                      have z7 := (HB6.out).cell 7
                      have zf0 := (HB6.out).frozen 0
                      have zf1 := (HB6.out).frozen 1
                      have zf2 := (HB6.out).frozen 2
                      have zf3 := (HB6.out).frozen 3
                      have zf4 := (HB6.out).frozen 4
                      have zf5 := (HB6.out).frozen 5
                      have zf6 := (HB6.out).frozen 6
                      have zf7 := (HB6.out).frozen 7
                      simp only [frameC, List.getElem?_toArray, List.getElem?_cons_zero, List.getElem?_cons_succ] at z0 z1 z2 z3 z4 z5 z6 z7
                      go_wp2_with fail
                      have HK7 : Hid (Keep (Own.One wo.heap.size) w6 _) := Lib.hid (keep8 (Keep.refl (Own.One wo.heap.size) w6) (.inl rfl) (.int .u8 0) (.int .u8 0) (.int .u8 0) (.int .u8 0) (.int .u8 0) (.int .u8 0) (.int .u8 0) (.int .u8 0))
                      have hfr7 := HF6.out.far (fun a ha => by cases ha; exact Nat.ne_of_lt hbq) HK7.out
                      have hs7 := HS6.out.far HB6.out HBase.out HK7.out
                      have hb7 := blk8 HB6.out (.int .u8 0) (.int .u8 0) (.int .u8 0) (.int .u8 0) (.int .u8 0) (.int .u8 0) (.int .u8 0) (.int .u8 0)
                      go_roundg (m - (i + 1))
                      case measure => rw [HQi.out]; omega
                      case rel => exact ⟨i + 1, kk + 1, false, hilt, rfl, by go_num, by go_num, by have := HKk.out; omega, rfl, hfr7, .inl ⟨rfl, HLt.out.1, HLt.out.2, la, V6, fun _ => 0, hs7, hb7⟩⟩
                  · skip
                    have hmod : (atn : Int) % 7 = 4 := by have := HQ7.out; omega
                    have hxy : bits .xor .u8 (F 5) by' = y := by
                      rw [HYy.out, HFf.out]
                      unfold segF
                      rw [if_neg (by decide), HHa.out]
                    have HBent : Hid (∀ k, 0 ≤ bent F 5 y k ∧ bent F 5 y k ≤ 255) := Lib.hid (fun k => by
                      unfold bent
                      split
                      · exact HYb.out
                      · rw [HFf.out]
                        exact segF_byte HI.out.byte _ _ (by omega) k)
                    go_wp2_with fail
                    have HK19 : Hid (Keep (Own.One wr.heap.size) w17 (w17.setCell ⟨wr.heap.size, 5, none⟩ (.int .u8 y))) := Lib.hid ((Keep.refl (Own.One wr.heap.size) w17).set1 5 _)
                    have HS19 := Lib.hid (HS17.out.far HBx.out HBs2.out HK19.out)
                    have HBa19 := Lib.hid (HBa17.out.keep HK19.out (fun e => by have e' : wo.heap.size = wr.heap.size := e; have := HWo.out; omega))
                    have HFr19 := Lib.hid (HFr17.out.far (fun a ha => by cases ha; have := HWo.out; exact Nat.ne_of_lt (Nat.lt_trans hbq this)) HK19.out)
                    have hcall := feed_any (HS19.out).rcv (bent F 5 y) (HBent.out) (by omega) (decide (p + i + 1 = segs ys)) (by show F 0 = _; rw [HFf.out]; exact HF0.out) (by rw [padsB_length]; omega)
                    refine hcall.mono ?_
                    rintro e w6 (⟨hc9, rfl, V6, hp⟩ | ⟨hc9, rfl, V6, hp⟩)
                    · have hl6 := (HS19.out).laid (HBa19.out) HBase.out hp.out.1 hp.out.2
                      have HF6 := Lib.hid ((HFr19.out).rstep (HS19.out).rcv hp.out.2)
                      have him1 : i + 1 = m := by
                        have := HMm.out
                        have := HNn.out
                        rw [decide_eq_true_eq] at hc9
                        omega
                      have HX6 := (show padsB ys a 4 y (p + i) ++ seven (bent F 5 y) = padsB ys a 4 y (p + (i + 1)) by rw [HFf.out, ← Nat.add_assoc, HHa.out]; exact (padsB_hit (by omega) HHit.out i).symm)
                      rw [HX6, him1] at hl6
                      have HS6 : Hid (Sess w w6 gs gr w1.heap.size (sndAt A1 c1 ys p m false) ⟨127, if p + m = segs ys then 1 else 0, 0, ansF m 127, V6, padsB ys a 4 y (p + m), 0⟩) := Lib.hid (by
                        have h := hl6.1
                        rw [show p + i + 1 = p + m by omega] at h
                        simp only [decide_eq_true_eq] at h
                        exact h)
                      have HB6 := Lib.hid hl6.2
                      have HM1 := Lib.hid him1
                      clear hcall hp hl6 hc9 HX6 him1
                      rw [HM1.out, aggF_ans]
                      have z0 := (HB6.out).cell 0
                      have z1 := (HB6.out).cell 1
                      have z2 := (HB6.out).cell 2
                      have z3 := (HB6.out).cell 3
                      have z4 := (HB6.out).cell 4
                      have z5 := (HB6.out).cell 5
                      have z6 := (HB6.out).cell 6
                      have z7 := (HB6.out).cell 7
                      have zf0 := (HB6.out).frozen 0
                      have zf1 := (HB6.out).frozen 1
                      have zf2 := (HB6.out).frozen 2
                      have zf3 := (HB6.out).frozen 3
                      have zf4 := (HB6.out).frozen 4
                      have zf5 := (HB6.out).frozen 5
                      have zf6 := (HB6.out).frozen 6
                      have zf7 := (HB6.out).frozen 7
                      simp only [frameC, List.getElem?_toArray, List.getElem?_cons_zero, List.getElem?_cons_succ] at z0 z1 z2 z3 z4 z5 z6 z7
                      go_wp2_with fail
                      have HK7 : Hid (Keep (Own.One wo.heap.size) w6 _) := Lib.hid (keep8 (Keep.refl (Own.One wo.heap.size) w6) (.inl rfl) (.int .u8 162) (.int .u8 m) (.int .u8 127) (.int .u8 0) (.int .u8 0) (.int .u8 0) (.int .u8 0) (.int .u8 0))
                      have hfr7 := HF6.out.far (fun a ha => by cases ha; exact Nat.ne_of_lt hbq) HK7.out
                      have hs7 := HS6.out.far HB6.out HBase.out HK7.out
                      have hb7 := blk8 HB6.out (.int .u8 162) (.int .u8 m) (.int .u8 127) (.int .u8 0) (.int .u8 0) (.int .u8 0) (.int .u8 0) (.int .u8 0)
                      go_roundg (m - (i + 1))
                      case measure => rw [HQi.out]; omega
                      case rel => exact ⟨i + 1, kk + 1, true, hilt, rfl, by go_num, by go_num, by have := HKk.out; omega, rfl, hfr7, .inr ⟨rfl, HM1.out, V6, hs7, hb7⟩⟩
                    · have hl6 := (HS19.out).laid (HBa19.out) HBase.out hp.out.1 hp.out.2
                      have HF6 := Lib.hid ((HFr19.out).rstep (HS19.out).rcv hp.out.2)
                      have hlt6 : p + (i + 1) < segs ys ∧ i + 1 < 127 := by
                        have := HNn.out
                        rw [decide_eq_true_eq] at hc9
                        omega
                      have HLt := Lib.hid hlt6
                      have HX6 := (show padsB ys a 4 y (p + i) ++ seven (bent F 5 y) = padsB ys a 4 y (p + (i + 1)) by rw [HFf.out, ← Nat.add_assoc, HHa.out]; exact (padsB_hit (by omega) HHit.out i).symm)
                      rw [HX6] at hl6
                      have HS6 := Lib.hid hl6.1
                      have HB6 := Lib.hid hl6.2
                      clear hcall hp hl6 hc9 HX6 hlt6
                      rw [aggF_0]
                      have z0 := (HB6.out).cell 0
                      have z1 := (HB6.out).cell 1
                      have z2 := (HB6.out).cell 2
                      have z3 := (HB6.out).cell 3
                      have z4 := (HB6.out).cell 4
                      have z5 := (HB6.out).cell 5
                      have z6 := (HB6.out).cell 6
                      have z7 := (HB6.out).cell 7
                      have zf0 := (HB6.out).frozen 0
                      have zf1 := (HB6.out).frozen 1
                      have zf2 := (HB6.out).frozen 2
                      have zf3 := (HB6.out).frozen 3
                      have zf4 := (HB6.out).frozen 4
                      have zf5 := (HB6.out).frozen 5
                      have zf6 := (HB6.out).frozen 6
                      have zf7 := (HB6.out).frozen 7
                      simp only [frameC, List.getElem?_toArray, List.getElem?_cons_zero, List.getElem?_cons_succ] at z0 z1 z2 z3 z4 z5 z6 z7
                      go_wp2_with fail
                      have HK7 : Hid (Keep (Own.One wo.heap.size) w6 _) := Lib.hid (keep8 (Keep.refl (Own.One wo.heap.size) w6) (.inl rfl) (.int .u8 0) (.int .u8 0) (.int .u8 0) (.int .u8 0) (.int .u8 0) (.int .u8 0) (.int .u8 0) (.int .u8 0))
                      have hfr7 := HF6.out.far (fun a ha => by cases ha; exact Nat.ne_of_lt hbq) HK7.out
                      have hs7 := HS6.out.far HB6.out HBase.out HK7.out
                      have hb7 := blk8 HB6.out (.int .u8 0) (.int .u8 0) (.int .u8 0) (.int .u8 0) (.int .u8 0) (.int .u8 0) (.int .u8 0) (.int .u8 0)
                      go_roundg (m - (i + 1))
                      case measure => rw [HQi.out]; omega
                      case rel => exact ⟨i + 1, kk + 1, false, hilt, rfl, by go_num, by go_num, by have := HKk.out; omega, rfl, hfr7, .inl ⟨rfl, HLt.out.1, HLt.out.2, la, V6, fun _ => 0, hs7, hb7⟩⟩
                  · skip
                    have hmod : (atn : Int) % 7 = 5 := by have := HQ7.out; omega
                    have hxy : bits .xor .u8 (F 6) by' = y := by
                      rw [HYy.out, HFf.out]
                      unfold segF
                      rw [if_neg (by decide), HHa.out]
                    have HBent : Hid (∀ k, 0 ≤ bent F 6 y k ∧ bent F 6 y k ≤ 255) := Lib.hid (fun k => by
                      unfold bent
                      split
                      · exact HYb.out
                      · rw [HFf.out]
                        exact segF_byte HI.out.byte _ _ (by omega) k)
                    go_wp2_with fail
                    have HK19 : Hid (Keep (Own.One wr.heap.size) w17 (w17.setCell ⟨wr.heap.size, 6, none⟩ (.int .u8 y))) := Lib.hid ((Keep.refl (Own.One wr.heap.size) w17).set1 6 _)
                    have HS19 := Lib.hid (HS17.out.far HBx.out HBs2.out HK19.out)
                    have HBa19 := Lib.hid (HBa17.out.keep HK19.out (fun e => by have e' : wo.heap.size = wr.heap.size := e; have := HWo.out; omega))
                    have HFr19 := Lib.hid (HFr17.out.far (fun a ha => by cases ha; have := HWo.out; exact Nat.ne_of_lt (Nat.lt_trans hbq this)) HK19.out)
                    have hcall := feed_any (HS19.out).rcv (bent F 6 y) (HBent.out) (by omega) (decide (p + i + 1 = segs ys)) (by show F 0 = _; rw [HFf.out]; exact HF0.out) (by rw [padsB_length]; omega)
                    refine hcall.mono ?_
                    rintro e w6 (⟨hc9, rfl, V6, hp⟩ | ⟨hc9, rfl, V6, hp⟩)
                    · have hl6 := (HS19.out).laid (HBa19.out) HBase.out hp.out.1 hp.out.2
                      have HF6 := Lib.hid ((HFr19.out).rstep (HS19.out).rcv hp.out.2)
                      have him1 : i + 1 = m := by
                        have := HMm.out
                        have := HNn.out
                        rw [decide_eq_true_eq] at hc9
                        omega
                      have HX6 := (show padsB ys a 5 y (p + i) ++ seven (bent F 6 y) = padsB ys a 5 y (p + (i + 1)) by rw [HFf.out, ← Nat.add_assoc, HHa.out]; exact (padsB_hit (by omega) HHit.out i).symm)
                      rw [HX6, him1] at hl6
                      have HS6 : Hid (Sess w w6 gs gr w1.heap.size (sndAt A1 c1 ys p m false) ⟨127, if p + m = segs ys then 1 else 0, 0, ansF m 127, V6, padsB ys a 5 y (p + m), 0⟩) := Lib.hid (by
                        have h := hl6.1
                        rw [show p + i + 1 = p + m by omega] at h
                        simp only [decide_eq_true_eq] at h
                        exact h)
                      have HB6 := Lib.hid hl6.2
                      have HM1 := Lib.hid him1
                      clear hcall hp hl6 hc9 HX6 him1
                      rw [HM1.out, aggF_ans]
                      have z0 := (HB6.out).cell 0
                      have z1 := (HB6.out).cell 1
                      have z2 := (HB6.out).cell 2
                      have z3 := (HB6.out).cell 3
                      have z4 := (HB6.out).cell 4
                      have z5 := (HB6.out).cell 5
                      have z6 := (HB6.out).cell 6
                      have z7 := (HB6.out).cell 7
                      have zf0 := (HB6.out).frozen 0
                      have zf1 := (HB6.out).frozen 1
                      have zf2 := (HB6.out).frozen 2
                      have zf3 := (HB6.out).frozen 3
                      have zf4 := (HB6.out).frozen 4
                      have zf5 := (HB6.out).frozen 5
                      have zf6 := (HB6.out).frozen 6
                      have zf7 := (HB6.out).frozen 7
                      simp only [frameC, List.getElem?_toArray, List.getElem?_cons_zero, List.getElem?_cons_succ] at z0 z1 z2 z3 z4 z5 z6 z7
                      go_wp2_with fail
                      have HK7 : Hid (Keep (Own.One wo.heap.size) w6 _) := Lib.hid (keep8 (Keep.refl (Own.One wo.heap.size) w6) (.inl rfl) (.int .u8 162) (.int .u8 m) (.int .u8 127) (.int .u8 0) (.int .u8 0) (.int .u8 0) (.int .u8 0) (.int .u8 0))
                      have hfr7 := HF6.out.far (fun a ha => by cases ha; exact Nat.ne_of_lt hbq) HK7.out
                      have hs7 := HS6.out.far HB6.out HBase.out HK7.out
                      have hb7 := blk8 HB6.out (.int .u8 162) (.int .u8 m) (.int .u8 127) (.int .u8 0) (.int .u8 0) (.int .u8 0) (.int .u8 0) (.int .u8 0)
                      go_roundg (m - (i + 1))
                      case measure => rw [HQi.out]; omega
                      case rel => exact ⟨i + 1, kk + 1, true, hilt, rfl, by go_num, by go_num, by have := HKk.out; omega, rfl, hfr7, .inr ⟨rfl, HM1.out, V6, hs7, hb7⟩⟩
                    · have hl6 := (HS19.out).laid (HBa19.out) HBase.out hp.out.1 hp.out.2
                      have HF6 := Lib.hid ((HFr19.out).rstep (HS19.out).rcv hp.out.2)
                      have hlt6 : p + (i + 1) < segs ys ∧ i + 1 < 127 := by
                        have := HNn.out
                        rw [decide_eq_true_eq] at hc9
                        omega
                      have HLt := Lib.hid hlt6
                      have HX6 := (show padsB ys a 5 y (p + i) ++ seven (bent F 6 y) = padsB ys a 5 y (p + (i + 1)) by rw [HFf.out, ← Nat.add_assoc, HHa.out]; exact (padsB_hit (by omega) HHit.out i).symm)
                      rw [HX6] at hl6
                      have HS6 := Lib.hid hl6.1
                      have HB6 := Lib.hid hl6.2
                      clear hcall hp hl6 hc9 HX6 hlt6
                      rw [aggF_0]
                      have z0 := (HB6.out).cell 0
                      have z1 := (HB6.out).cell 1
                      have z2 := (HB6.out).cell 2
                      have z3 := (HB6.out).cell 3
                      have z4 := (HB6.out).cell 4
                      have z5 := (HB6.out).cell 5
                      have z6 := (HB6.out).cell 6
                      have z7 := (HB6.out).cell 7
                      have zf0 := (HB6.out).frozen 0
                      have zf1 := (HB6.out).frozen 1
                      have zf2 := (HB6.out).frozen 2
                      have zf3 := (HB6.out).frozen 3
                      have zf4 := (HB6.out).frozen 4
                      have zf5 := (HB6.out).frozen 5
                      have zf6 := (HB6.out).frozen 6
                      have zf7 := (HB6.out).frozen 7
                      simp only [frameC, List.getElem?_toArray, List.getElem?_cons_zero, List.getElem?_cons_succ] at z0 z1 z2 z3 z4 z5 z6 z7
                      go_wp2_with fail
                      have HK7 : Hid (Keep (Own.One wo.heap.size) w6 _) := Lib.hid (keep8 (Keep.refl (Own.One wo.heap.size) w6) (.inl rfl) (.int .u8 0) (.int .u8 0) (.int .u8 0) (.int .u8 0) (.int .u8 0) (.int .u8 0) (.int .u8 0) (.int .u8 0))
                      have hfr7 := HF6.out.far (fun a ha => by cases ha; exact Nat.ne_of_lt hbq) HK7.out
                      have hs7 := HS6.out.far HB6.out HBase.out HK7.out
                      have hb7 := blk8 HB6.out (.int .u8 0) (.int .u8 0) (.int .u8 0) (.int .u8 0) (.int .u8 0) (.int .u8 0) (.int .u8 0) (.int .u8 0)
                      go_roundg (m - (i + 1))
                      case measure => rw [HQi.out]; omega
                      case rel => exact ⟨i + 1, kk + 1, false, hilt, rfl, by go_num, by go_num, by have := HKk.out; omega, rfl, hfr7, .inl ⟨rfl, HLt.out.1, HLt.out.2, la, V6, fun _ => 0, hs7, hb7⟩⟩
                  · skip
                    have hmod : (atn : Int) % 7 = 6 := by have := HQ7.out; omega
                    have hxy : bits .xor .u8 (F 7) by' = y := by
                      rw [HYy.out, HFf.out]
                      unfold segF
                      rw [if_neg (by decide), HHa.out]
                    have HBent : Hid (∀ k, 0 ≤ bent F 7 y k ∧ bent F 7 y k ≤ 255) := Lib.hid (fun k => by
                      unfold bent
                      split
                      · exact HYb.out
                      · rw [HFf.out]
                        exact segF_byte HI.out.byte _ _ (by omega) k)
                    go_wp2_with fail
                    have HK19 : Hid (Keep (Own.One wr.heap.size) w17 (w17.setCell ⟨wr.heap.size, 7, none⟩ (.int .u8 y))) := Lib.hid ((Keep.refl (Own.One wr.heap.size) w17).set1 7 _)
                    have HS19 := Lib.hid (HS17.out.far HBx.out HBs2.out HK19.out)
                    have HBa19 := Lib.hid (HBa17.out.keep HK19.out (fun e => by have e' : wo.heap.size = wr.heap.size := e; have := HWo.out; omega))
                    have HFr19 := Lib.hid (HFr17.out.far (fun a ha => by cases ha; have := HWo.out; exact Nat.ne_of_lt (Nat.lt_trans hbq this)) HK19.out)
                    have hcall := feed_any (HS19.out).rcv (bent F 7 y) (HBent.out) (by omega) (decide (p + i + 1 = segs ys)) (by show F 0 = _; rw [HFf.out]; exact HF0.out) (by rw [padsB_length]; omega)
                    refine hcall.mono ?_
                    rintro e w6 (⟨hc9, rfl, V6, hp⟩ | ⟨hc9, rfl, V6, hp⟩)
                    · have hl6 := (HS19.out).laid (HBa19.out) HBase.out hp.out.1 hp.out.2
                      have HF6 := Lib.hid ((HFr19.out).rstep (HS19.out).rcv hp.out.2)
                      have him1 : i + 1 = m := by
                        have := HMm.out
                        have := HNn.out
                        rw [decide_eq_true_eq] at hc9
                        omega
                      have HX6 := (show padsB ys a 6 y (p + i) ++ seven (bent F 7 y) = padsB ys a 6 y (p + (i + 1)) by rw [HFf.out, ← Nat.add_assoc, HHa.out]; exact (padsB_hit (by omega) HHit.out i).symm)
                      rw [HX6, him1] at hl6
                      have HS6 : Hid (Sess w w6 gs gr w1.heap.size (sndAt A1 c1 ys p m false) ⟨127, if p + m = segs ys then 1 else 0, 0, ansF m 127, V6, padsB ys a 6 y (p + m), 0⟩) := Lib.hid (by
                        have h := hl6.1
                        rw [show p + i + 1 = p + m by omega] at h
                        simp only [decide_eq_true_eq] at h
                        exact h)
                      have HB6 := Lib.hid hl6.2
                      have HM1 := Lib.hid him1
                      clear hcall hp hl6 hc9 HX6 him1
                      rw [HM1.out, aggF_ans]
                      have z0 := (HB6.out).cell 0
                      have z1 := (HB6.out).cell 1
                      have z2 := (HB6.out).cell 2
                      have z3 := (HB6.out).cell 3
                      have z4 := (HB6.out).cell 4
                      have z5 := (HB6.out).cell 5
                      have z6 := (HB6.out).cell 6
                      have z7 := (HB6.out).cell 7
                      have zf0 := (HB6.out).frozen 0
                      have zf1 := (HB6.out).frozen 1
                      have zf2 := (HB6.out).frozen 2
                      have zf3 := (HB6.out).frozen 3
                      have zf4 := (HB6.out).frozen 4
                      have zf5 := (HB6.out).frozen 5
                      have zf6 := (HB6.out).frozen 6
                      have zf7 := (HB6.out).frozen 7
                      simp only [frameC, List.getElem?_toArray, List.getElem?_cons_zero, List.getElem?_cons_succ] at z0 z1 z2 z3 z4 z5 z6 z7
                      go_wp2_with fail
                      have HK7 : Hid (Keep (Own.One wo.heap.size) w6 _) := Lib.hid (keep8 (Keep.refl (Own.One wo.heap.size) w6) (.inl rfl) (.int .u8 162) (.int .u8 m) (.int .u8 127) (.int .u8 0) (.int .u8 0) (.int .u8 0) (.int .u8 0) (.int .u8 0))
                      have hfr7 := HF6.out.far (fun a ha => by cases ha; exact Nat.ne_of_lt hbq) HK7.out
                      have hs7 := HS6.out.far HB6.out HBase.out HK7.out
                      have hb7 := blk8 HB6.out (.int .u8 162) (.int .u8 m) (.int .u8 127) (.int .u8 0) (.int .u8 0) (.int .u8 0) (.int .u8 0) (.int .u8 0)
                      go_roundg (m - (i + 1))
                      case measure => rw [HQi.out]; omega
                      case rel => exact ⟨i + 1, kk + 1, true, hilt, rfl, by go_num, by go_num, by have := HKk.out; omega, rfl, hfr7, .inr ⟨rfl, HM1.out, V6, hs7, hb7⟩⟩
                    · have hl6 := (HS19.out).laid (HBa19.out) HBase.out hp.out.1 hp.out.2
                      have HF6 := Lib.hid ((HFr19.out).rstep (HS19.out).rcv hp.out.2)
                      have hlt6 : p + (i + 1) < segs ys ∧ i + 1 < 127 := by
                        have := HNn.out
                        rw [decide_eq_true_eq] at hc9
                        omega
                      have HLt := Lib.hid hlt6
                      have HX6 := (show padsB ys a 6 y (p + i) ++ seven (bent F 7 y) = padsB ys a 6 y (p + (i + 1)) by rw [HFf.out, ← Nat.add_assoc, HHa.out]; exact (padsB_hit (by omega) HHit.out i).symm)
                      rw [HX6] at hl6
                      have HS6 := Lib.hid hl6.1
                      have HB6 := Lib.hid hl6.2
                      clear hcall hp hl6 hc9 HX6 hlt6
                      rw [aggF_0]
                      have z0 := (HB6.out).cell 0
                      have z1 := (HB6.out).cell 1
                      have z2 := (HB6.out).cell 2
                      have z3 := (HB6.out).cell 3
                      have z4 := (HB6.out).cell 4
                      have z5 := (HB6.out).cell 5
                      have z6 := (HB6.out).cell 6
                      have z7 := (HB6.out).cell 7
                      have zf0 := (HB6.out).frozen 0
                      have zf1 := (HB6.out).frozen 1
                      have zf2 := (HB6.out).frozen 2
                      have zf3 := (HB6.out).frozen 3
                      have zf4 := (HB6.out).frozen 4
                      have zf5 := (HB6.out).frozen 5
                      have zf6 := (HB6.out).frozen 6
                      have zf7 := (HB6.out).frozen 7
                      simp only [frameC, List.getElem?_toArray, List.getElem?_cons_zero, List.getElem?_cons_succ] at z0 z1 z2 z3 z4 z5 z6 z7
                      go_wp2_with fail
                      have HK7 : Hid (Keep (Own.One wo.heap.size) w6 _) := Lib.hid (keep8 (Keep.refl (Own.One wo.heap.size) w6) (.inl rfl) (.int .u8 0) (.int .u8 0) (.int .u8 0) (.int .u8 0) (.int .u8 0) (.int .u8 0) (.int .u8 0) (.int .u8 0))
                      have hfr7 := HF6.out.far (fun a ha => by cases ha; exact Nat.ne_of_lt hbq) HK7.out
                      have hs7 := HS6.out.far HB6.out HBase.out HK7.out
                      have hb7 := blk8 HB6.out (.int .u8 0) (.int .u8 0) (.int .u8 0) (.int .u8 0) (.int .u8 0) (.int .u8 0) (.int .u8 0) (.int .u8 0)
                      go_roundg (m - (i + 1))
                      case measure => rw [HQi.out]; omega
                      case rel => exact ⟨i + 1, kk + 1, false, hilt, rfl, by go_num, by go_num, by have := HKk.out; omega, rfl, hfr7, .inl ⟨rfl, HLt.out.1, HLt.out.2, la, V6, fun _ => 0, hs7, hb7⟩⟩
                · have HNo : Hid (¬ (a = p + i ∧ hit ys a)) := Lib.hid (fun h => by
                    have h2 := HPp.out
                    have h3 := HFf.out
                    have h4 := h.2.2
                    rw [show a % 127 = i by omega, h.1] at h4
                    rw [h3] at hf193
                    exact hf193 h4)
                  have HKa := Lib.hid hka
                  clear hka
                  go_wp2_with fail
                  have hcall := feed_any (HS17.out).rcv (F) (by rw [HFf.out]; exact segF_byte HI.out.byte _ _ (by omega)) (by omega) (decide (p + i + 1 = segs ys)) (by rw [HFf.out]; exact HF0.out) (by rw [padsB_length]; omega)
                  refine hcall.mono ?_
                  rintro e w6 (⟨hc9, rfl, V6, hp⟩ | ⟨hc9, rfl, V6, hp⟩)
                  · have hl6 := (HS17.out).laid (HBa17.out) HBase.out hp.out.1 hp.out.2
                    have HF6 := Lib.hid ((HFr17.out).rstep (HS17.out).rcv hp.out.2)
                    have him1 : i + 1 = m := by
                      have := HMm.out
                      have := HNn.out
                      rw [decide_eq_true_eq] at hc9
                      omega
                    have HX6 := (show padsB ys a q y (p + i) ++ seven F = padsB ys a q y (p + (i + 1)) by rw [HFf.out, ← Nat.add_assoc]; exact (padsB_other hq7 HNo.out i).symm)
                    rw [HX6, him1] at hl6
                    have HS6 : Hid (Sess w w6 gs gr w1.heap.size (sndAt A1 c1 ys p m false) ⟨127, if p + m = segs ys then 1 else 0, 0, ansF m 127, V6, padsB ys a q y (p + m), 0⟩) := Lib.hid (by
                      have h := hl6.1
                      rw [show p + i + 1 = p + m by omega] at h
                      simp only [decide_eq_true_eq] at h
                      exact h)
                    have HB6 := Lib.hid hl6.2
                    have HM1 := Lib.hid him1
                    clear hcall hp hl6 hc9 HX6 him1
                    rw [HM1.out, aggF_ans]
                    have z0 := (HB6.out).cell 0
                    have z1 := (HB6.out).cell 1
                    have z2 := (HB6.out).cell 2
                    have z3 := (HB6.out).cell 3
                    have z4 := (HB6.out).cell 4
                    have z5 := (HB6.out).cell 5
                    have z6 := (HB6.out).cell 6
                    have z7 := (HB6.out).cell 7
                    have zf0 := (HB6.out).frozen 0
                    have zf1 := (HB6.out).frozen 1
                    have zf2 := (HB6.out).frozen 2
                    have zf3 := (HB6.out).frozen 3
                    have zf4 := (HB6.out).frozen 4
                    have zf5 := (HB6.out).frozen 5
                    have zf6 := (HB6.out).frozen 6
                    have zf7 := (HB6.out).frozen 7
                    simp only [frameC, List.getElem?_toArray, List.getElem?_cons_zero, List.getElem?_cons_succ] at z0 z1 z2 z3 z4 z5 z6 z7
                    go_wp2_with fail
                    have HK7 : Hid (Keep (Own.One wo.heap.size) w6 _) := Lib.hid (keep8 (Keep.refl (Own.One wo.heap.size) w6) (.inl rfl) (.int .u8 162) (.int .u8 m) (.int .u8 127) (.int .u8 0) (.int .u8 0) (.int .u8 0) (.int .u8 0) (.int .u8 0))
                    have hfr7 := HF6.out.far (fun a ha => by cases ha; exact Nat.ne_of_lt hbq) HK7.out
                    have hs7 := HS6.out.far HB6.out HBase.out HK7.out
                    have hb7 := blk8 HB6.out (.int .u8 162) (.int .u8 m) (.int .u8 127) (.int .u8 0) (.int .u8 0) (.int .u8 0) (.int .u8 0) (.int .u8 0)
                    go_roundg (m - (i + 1))
                    case measure => rw [HQi.out]; omega
                    case rel => exact ⟨i + 1, kk + 1, true, hilt, rfl, by go_num, by go_num, by have := HKk.out; omega, rfl, hfr7, .inr ⟨rfl, HM1.out, V6, hs7, hb7⟩⟩
                  · have hl6 := (HS17.out).laid (HBa17.out) HBase.out hp.out.1 hp.out.2
                    have HF6 := Lib.hid ((HFr17.out).rstep (HS17.out).rcv hp.out.2)
                    have hlt6 : p + (i + 1) < segs ys ∧ i + 1 < 127 := by
                      have := HNn.out
                      rw [decide_eq_true_eq] at hc9
                      omega
                    have HLt := Lib.hid hlt6
                    have HX6 := (show padsB ys a q y (p + i) ++ seven F = padsB ys a q y (p + (i + 1)) by rw [HFf.out, ← Nat.add_assoc]; exact (padsB_other hq7 HNo.out i).symm)
                    rw [HX6] at hl6
                    have HS6 := Lib.hid hl6.1
                    have HB6 := Lib.hid hl6.2
                    clear hcall hp hl6 hc9 HX6 hlt6
                    rw [aggF_0]
                    have z0 := (HB6.out).cell 0
                    have z1 := (HB6.out).cell 1
                    have z2 := (HB6.out).cell 2
                    have z3 := (HB6.out).cell 3
                    have z4 := (HB6.out).cell 4
                    have z5 := (HB6.out).cell 5
                    have z6 := (HB6.out).cell 6
                    have z7 := (HB6.out).cell 7
                    have zf0 := (HB6.out).frozen 0
                    have zf1 := (HB6.out).frozen 1
                    have zf2 := (HB6.out).frozen 2
                    have zf3 := (HB6.out).frozen 3
                    have zf4 := (HB6.out).frozen 4
                    have zf5 := (HB6.out).frozen 5
                    have zf6 := (HB6.out).frozen 6
                    have zf7 := (HB6.out).frozen 7
                    simp only [frameC, List.getElem?_toArray, List.getElem?_cons_zero, List.getElem?_cons_succ] at z0 z1 z2 z3 z4 z5 z6 z7
                    go_wp2_with fail
                    have HK7 : Hid (Keep (Own.One wo.heap.size) w6 _) := Lib.hid (keep8 (Keep.refl (Own.One wo.heap.size) w6) (.inl rfl) (.int .u8 0) (.int .u8 0) (.int .u8 0) (.int .u8 0) (.int .u8 0) (.int .u8 0) (.int .u8 0) (.int .u8 0))
                    have hfr7 := HF6.out.far (fun a ha => by cases ha; exact Nat.ne_of_lt hbq) HK7.out
                    have hs7 := HS6.out.far HB6.out HBase.out HK7.out
                    have hb7 := blk8 HB6.out (.int .u8 0) (.int .u8 0) (.int .u8 0) (.int .u8 0) (.int .u8 0) (.int .u8 0) (.int .u8 0) (.int .u8 0)
                    go_roundg (m - (i + 1))
                    case measure => rw [HQi.out]; omega
                    case rel => exact ⟨i + 1, kk + 1, false, hilt, rfl, by go_num, by go_num, by have := HKk.out; omega, rfl, hfr7, .inl ⟨rfl, HLt.out.1, HLt.out.2, la, V6, fun _ => 0, hs7, hb7⟩⟩
              · have hka2 : ¬ (kk : Int) = (a : Int) := by omega
                have HNo : Hid (¬ (a = p + i ∧ hit ys a)) := Lib.hid (fun h => by have := HKk.out; omega)
                clear hka
                go_wp2_with fail
                have hcall := feed_any (HS17.out).rcv (F) (by rw [HFf.out]; exact segF_byte HI.out.byte _ _ (by omega)) (by omega) (decide (p + i + 1 = segs ys)) (by rw [HFf.out]; exact HF0.out) (by rw [padsB_length]; omega)
                refine hcall.mono ?_
                rintro e w6 (⟨hc9, rfl, V6, hp⟩ | ⟨hc9, rfl, V6, hp⟩)
                · have hl6 := (HS17.out).laid (HBa17.out) HBase.out hp.out.1 hp.out.2
                  have HF6 := Lib.hid ((HFr17.out).rstep (HS17.out).rcv hp.out.2)
                  have him1 : i + 1 = m := by
                    have := HMm.out
                    have := HNn.out
                    rw [decide_eq_true_eq] at hc9
                    omega
                  have HX6 := (show padsB ys a q y (p + i) ++ seven F = padsB ys a q y (p + (i + 1)) by rw [HFf.out, ← Nat.add_assoc]; exact (padsB_other hq7 HNo.out i).symm)
                  rw [HX6, him1] at hl6
                  have HS6 : Hid (Sess w w6 gs gr w1.heap.size (sndAt A1 c1 ys p m false) ⟨127, if p + m = segs ys then 1 else 0, 0, ansF m 127, V6, padsB ys a q y (p + m), 0⟩) := Lib.hid (by
                    have h := hl6.1
                    rw [show p + i + 1 = p + m by omega] at h
                    simp only [decide_eq_true_eq] at h
                    exact h)
                  have HB6 := Lib.hid hl6.2
                  have HM1 := Lib.hid him1
                  clear hcall hp hl6 hc9 HX6 him1
                  rw [HM1.out, aggF_ans]
                  have z0 := (HB6.out).cell 0
                  have z1 := (HB6.out).cell 1
                  have z2 := (HB6.out).cell 2
                  have z3 := (HB6.out).cell 3
                  have z4 := (HB6.out).cell 4
                  have z5 := (HB6.out).cell 5
                  have z6 := (HB6.out).cell 6
                  have z7 := (HB6.out).cell 7
                  have zf0 := (HB6.out).frozen 0
                  have zf1 := (HB6.out).frozen 1
                  have zf2 := (HB6.out).frozen 2
                  have zf3 := (HB6.out).frozen 3
                  have zf4 := (HB6.out).frozen 4
                  have zf5 := (HB6.out).frozen 5
                  have zf6 := (HB6.out).frozen 6
                  have zf7 := (HB6.out).frozen 7
                  simp only [frameC, List.getElem?_toArray, List.getElem?_cons_zero, List.getElem?_cons_succ] at z0 z1 z2 z3 z4 z5 z6 z7
                  go_wp2_with fail
                  have HK7 : Hid (Keep (Own.One wo.heap.size) w6 _) := Lib.hid (keep8 (Keep.refl (Own.One wo.heap.size) w6) (.inl rfl) (.int .u8 162) (.int .u8 m) (.int .u8 127) (.int .u8 0) (.int .u8 0) (.int .u8 0) (.int .u8 0) (.int .u8 0))
                  have hfr7 := HF6.out.far (fun a ha => by cases ha; exact Nat.ne_of_lt hbq) HK7.out
                  have hs7 := HS6.out.far HB6.out HBase.out HK7.out
                  have hb7 := blk8 HB6.out (.int .u8 162) (.int .u8 m) (.int .u8 127) (.int .u8 0) (.int .u8 0) (.int .u8 0) (.int .u8 0) (.int .u8 0)
                  go_roundg (m - (i + 1))
                  case measure => rw [HQi.out]; omega
                  case rel => exact ⟨i + 1, kk + 1, true, hilt, rfl, by go_num, by go_num, by have := HKk.out; omega, rfl, hfr7, .inr ⟨rfl, HM1.out, V6, hs7, hb7⟩⟩
                · have hl6 := (HS17.out).laid (HBa17.out) HBase.out hp.out.1 hp.out.2
                  have HF6 := Lib.hid ((HFr17.out).rstep (HS17.out).rcv hp.out.2)
                  have hlt6 : p + (i + 1) < segs ys ∧ i + 1 < 127 := by
                    have := HNn.out
                    rw [decide_eq_true_eq] at hc9
                    omega
                  have HLt := Lib.hid hlt6
                  have HX6 := (show padsB ys a q y (p + i) ++ seven F = padsB ys a q y (p + (i + 1)) by rw [HFf.out, ← Nat.add_assoc]; exact (padsB_other hq7 HNo.out i).symm)
                  rw [HX6] at hl6
                  have HS6 := Lib.hid hl6.1
                  have HB6 := Lib.hid hl6.2
                  clear hcall hp hl6 hc9 HX6 hlt6
                  rw [aggF_0]
                  have z0 := (HB6.out).cell 0
                  have z1 := (HB6.out).cell 1
                  have z2 := (HB6.out).cell 2
                  have z3 := (HB6.out).cell 3
                  have z4 := (HB6.out).cell 4
                  have z5 := (HB6.out).cell 5
                  have z6 := (HB6.out).cell 6
                  have z7 := (HB6.out).cell 7
                  have zf0 := (HB6.out).frozen 0
                  have zf1 := (HB6.out).frozen 1
                  have zf2 := (HB6.out).frozen 2
                  have zf3 := (HB6.out).frozen 3
                  have zf4 := (HB6.out).frozen 4
                  have zf5 := (HB6.out).frozen 5
                  have zf6 := (HB6.out).frozen 6
                  have zf7 := (HB6.out).frozen 7
                  simp only [frameC, List.getElem?_toArray, List.getElem?_cons_zero, List.getElem?_cons_succ] at z0 z1 z2 z3 z4 z5 z6 z7
                  go_wp2_with fail
                  have HK7 : Hid (Keep (Own.One wo.heap.size) w6 _) := Lib.hid (keep8 (Keep.refl (Own.One wo.heap.size) w6) (.inl rfl) (.int .u8 0) (.int .u8 0) (.int .u8 0) (.int .u8 0) (.int .u8 0) (.int .u8 0) (.int .u8 0) (.int .u8 0))
                  have hfr7 := HF6.out.far (fun a ha => by cases ha; exact Nat.ne_of_lt hbq) HK7.out
                  have hs7 := HS6.out.far HB6.out HBase.out HK7.out
                  have hb7 := blk8 HB6.out (.int .u8 0) (.int .u8 0) (.int .u8 0) (.int .u8 0) (.int .u8 0) (.int .u8 0) (.int .u8 0) (.int .u8 0)
                  go_roundg (m - (i + 1))
                  case measure => rw [HQi.out]; omega
                  case rel => exact ⟨i + 1, kk + 1, false, hilt, rfl, by go_num, by go_num, by have := HKk.out; omega, rfl, hfr7, .inl ⟨rfl, HLt.out.1, HLt.out.2, la, V6, fun _ => 0, hs7, hb7⟩⟩
            · omega
          · have him2 : m = i := by omega
            subst him2
            have hnl : ¬ (m : Int) < (m : Int) := by omega
            rcases hwi with ⟨rfl, hpiN, hi127, _⟩ | ⟨rfl, _, V, hs, hba⟩
            · exfalso
              have := HMm.out
              have := HNn.out
              omega
            · have HS := Lib.hid hs
              have HBa := Lib.hid hba
              have HC127 : Hid (m ≤ 127) := Lib.hid (by omega)
              clear hs hba
              have z0 := (HBa.out).cell 0
              have z1 := (HBa.out).cell 1
              have z2 := (HBa.out).cell 2
              have z3 := (HBa.out).cell 3
              have z4 := (HBa.out).cell 4
              have z5 := (HBa.out).cell 5
              have z6 := (HBa.out).cell 6
              have z7 := (HBa.out).cell 7
              have zf0 := (HBa.out).frozen 0
              have zf1 := (HBa.out).frozen 1
              have zf2 := (HBa.out).frozen 2
              have zf3 := (HBa.out).frozen 3
              have zf4 := (HBa.out).frozen 4
              have zf5 := (HBa.out).frozen 5
              have zf6 := (HBa.out).frozen 6
              have zf7 := (HBa.out).frozen 7
              simp only [List.getElem?_toArray, List.getElem?_cons_zero, List.getElem?_cons_succ] at z0 z1 z2 z3 z4 z5 z6 z7
              have hnd2 : (⟨127, if p + m = segs ys then 1 else 0, 0, ansF m 127, V, padsB ys a q y (p + m), 0⟩ : Rcv).doing ≠ 2 := by
                show (if p + m = segs ys then 1 else 0) ≠ 2
                split <;> decide
              have HNd := Lib.hid hnd2
              clear hnd2
              go_wp2_with fail
              refine (RDone_not HS.out.rcv HNd.out).mono ?_
              rintro e w' ⟨rfl, rfl⟩
              by_cases hpm : p + m < segs ys
              · have HCN := Lib.hid hpm
                have HS7 : Hid (Sess w wr gs gr w1.heap.size (sndAt A1 c1 ys p m false) ⟨127, 0, 0, ansF m 127, V, padsB ys a q y (p + m), 0⟩) := Lib.hid (by
                  have h := HS.out
                  rw [if_neg (by omega)] at h
                  exact h)
                have HNx : Hid (p + m = 127 * (bl + 1)) := Lib.hid (by have := HMm.out; have := HNn.out; have := HPp.out; omega)
                clear hpm
                go_wp2_with fail
                refine (Feed_more HS7.out.snd rfl rfl rfl m 127 0 0 0 0 0 (Nat.le_refl _) HC127.out (by decide) (by decide) HCN.out _ rfl).mono ?_
                rintro e w8 ⟨A8, c8, rfl, hp8⟩
                have HS8 := Lib.hid (HS7.out.sstep hp8.out.1 rfl hp8.out.2.2)
                have HF8 := Lib.hid (own_mono hp8.out.2.1 HS7.out.keep.size)
                clear hp8 z0 z1 z2 z3 z4 z5 z6 z7 zf0 zf1 zf2 zf3 zf4 zf5 zf6 zf7
                obtain ⟨m8, hm8⟩ : ∃ m8, m8 = min 127 (segs ys - (p + m)) := ⟨_, rfl⟩
                have HM8 := Lib.hid hm8
                have HS8b : Hid (Sess w w8 gs gr w1.heap.size (sndAt A1 c1 ys (p + m) m8 false) ⟨127, 0, 0, ansF m 127, V, padsB ys a q y (p + m), 0⟩) := Lib.hid (by rw [hm8]; exact HS8.out)
                have HF8b : Hid (FrAt w8 w.heap.size A8 m8 c8 (framesF ys (p + m) m8)) := Lib.hid (by rw [hm8]; exact HF8.out)
                rw [show (sndAt A1 c1 ys p m false).at' = p from rfl, show (sndAt A1 c1 ys p m false).bs = ys from rfl, ← hm8]
                clear HS8 HF8 hm8
                go_wp2_with fail
                go_roundg (2000 - (bl + 1))
                case measure => rw [HQ.out]; omega
                case rel => exact ⟨bl + 1, A8, c8, m8, p + m, rfl, by have := HPp.out; have := HNn.out; omega, by go_num, by go_num, rfl, .inl ⟨HNx.out, ⟨ansF m 127, V, by rw [← HNx.out]; exact HS8b.out, by rw [← HNx.out]; exact HF8b.out⟩, by have := HNx.out; have := HCN.out; omega, by rw [← HNx.out]; exact HM8.out⟩⟩
              · have HE : Hid (p + m = segs ys) := Lib.hid (by have := HNn.out; omega)
                have HS7 : Hid (Sess w wr gs gr w1.heap.size (sndAt A1 c1 ys p m false) ⟨127, 1, 0, ansF m 127, V, padsB ys a q y (segs ys), 0⟩) := Lib.hid (by
                  have h := HS.out
                  rw [if_pos HE.out, HE.out] at h
                  exact h)
                clear hpm
                go_wp2_with fail
                refine (Feed_end HS7.out.snd rfl rfl rfl m 127 0 0 0 0 0 (Nat.le_refl _) HC127.out (by decide) (by decide) HE.out).mono ?_
                rintro e w8 ⟨A8, c8, rfl, hp8⟩
                have HS8 : Hid (Sess w w8 gs gr w1.heap.size (sndAt A1 c1 ys (segs ys) m true) ⟨127, 1, 0, ansF m 127, V, padsB ys a q y (segs ys), 0⟩) := Lib.hid (by
                  have h := HS7.out.sstep hp8.out.1 rfl hp8.out.2.2
                  unfold sndAt at h
                  simp only [HE.out] at h
                  exact h)
                have HF8 : Hid (FrAt w8 w.heap.size A8 1 c8 [endF ys]) := Lib.hid (own_mono hp8.out.2.1 HS7.out.keep.size)
                clear hp8 z0 z1 z2 z3 z4 z5 z6 z7 zf0 zf1 zf2 zf3 zf4 zf5 zf6 zf7
                go_wp2_with fail
                go_roundg (2000 - (bl + 1))
                case measure => rw [HQ.out]; omega
                case rel => exact ⟨bl + 1, A8, c8, 1, p + m, rfl, by have := HPp.out; have := HNn.out; omega, by go_num, by go_num, rfl, .inr ⟨Nat.le_of_eq HE.out, ansF m 127, V, m, rfl, HS8.out, HF8.out⟩⟩
      · obtain ⟨la0, V0, mm, rfl, hs0, hf0⟩ := hst
        obtain ⟨bq, oq, rfl, hbq, _⟩ := fr_at (j := 0) (f := endF ys) hf0.row rfl
        have HS0 := Lib.hid hs0
        have HF0' := Lib.hid hf0
        have HBase : Hid (w1.heap.size ≤ wo.heap.size) := Lib.hid hs0.rcv.bs
        rw [← HNn.out] at hkn
        clear hs0 hf0
        go_wp2_with fail
        go_loopg [13, 16, 17] 1 (fun q' s13 s16 s17 wi => ∃ i kk is, i ≤ 1 ∧ q' = 1 - i ∧ s17 = .int .i64 (i : Nat) ∧ s13 = .int .i64 (kk : Nat) ∧ kk ≤ 1000 + i ∧ s16 = .bool is ∧ FrAt wi w.heap.size (some ⟨bq, oq, none⟩) 1 c [endF ys] ∧ ((i = 0 ∧ is = false ∧ Sess w wi gs gr w1.heap.size (sndAt A1 c1 ys (segs ys) mm true) ⟨127, 1, 0, la0, V0, padsB ys a q y (segs ys), 0⟩ ∧ Blk wi wo.heap.size (frameC fun _ => 0) 30) ∨ (i = 1 ∧ is = true ∧ ∃ V, Sess w wi gs gr w1.heap.size (sndAt A1 c1 ys (segs ys) mm true) ⟨127, 2, 0, la0, V, ys, 0⟩) ∨ (i = 1 ∧ is = true ∧ by' ≠ 0 ∧ ∃ V, Sess w wi gs gr w1.heap.size (sndAt A1 c1 ys (segs ys) mm true) ⟨127, 2, 0, la0, V, [], 84148228⟩)))
        case atStart => exact ⟨0, kn, false, by omega, rfl, rfl, rfl, by omega, rfl, HF0'.out.new ((Keep.refl Own.Zero wo).alloc _), .inl ⟨rfl, rfl, HS0.out.new ((Keep.refl Own.Zero wo).alloc _), Blk.new wo _ _⟩⟩
        case round =>
          obtain ⟨i, kk, is, him, hqi, rfl, rfl, hkk, rfl, hfr, hwi⟩ := hrel
          have HQi := Lib.hid hqi
          have HFr := Lib.hid hfr
          clear hqi hfr
          rcases hwi with ⟨hi0, rfl, hs, hba⟩ | ⟨hi0, rfl, V, hs⟩ | ⟨hi0, rfl, hby, V, hs⟩
          · have hi1 : (i : Int) < 1 := by omega
            have HS := Lib.hid hs
            have HBa := Lib.hid hba
            obtain ⟨F, hF⟩ : ∃ F, F = endF ys := ⟨_, rfl⟩
            have HFf := Lib.hid hF
            have hf193 : ¬ F 0 < 193 := by
              rw [hF]
              unfold endF
              rw [if_pos rfl]
              omega
            obtain ⟨b', o', hb', _, hz⟩ := fr_at (j := i) (f := endF ys) HFr.out.row (by rw [hi0]; rfl)
            cases hb'
            rw [← hF] at hz
            have x0 := hz 0 (by omega)
            have x1 := hz 1 (by omega)
            have x2 := hz 2 (by omega)
            have x3 := hz 3 (by omega)
            have x4 := hz 4 (by omega)
            have x5 := hz 5 (by omega)
            have x6 := hz 6 (by omega)
            have x7 := hz 7 (by omega)
            simp only [← Nat.add_assoc, Nat.add_zero] at x0 x1 x2 x3 x4 x5 x6 x7
            have HI0 := Lib.hid hi0
            clear hs hba hF hz hi0
            go_wp2_with fail
            refine (SDone_is (HS.out.new ((Keep.refl Own.Zero wr).alloc _)).snd).mono ?_
            rintro e w17 ⟨rfl, hk17⟩
            have HK17 : Hid (Keep Own.Zero wr w17) := Lib.hid (((Keep.refl Own.Zero wr).alloc _).trans hk17.out (fun _ h => h.elim))
            have HBx : Hid (Blk w17 wr.heap.size #[.int .u8 (F 0), .int .u8 (F 1), .int .u8 (F 2), .int .u8 (F 3), .int .u8 (F 4), .int .u8 (F 5), .int .u8 (F 6), .int .u8 (F 7)] 30) := Lib.hid ((Blk.new wr _ _).keep hk17.out id)
            have HS17 := Lib.hid (HS.out.new HK17.out)
            have HBa17 := Lib.hid (HBa.out.keep HK17.out id)
            have HFr17 := Lib.hid (HFr.out.new HK17.out)
            rw [show (sndAt A1 c1 ys (segs ys) mm true).code = 0 from rfl, show (sndAt A1 c1 ys (segs ys) mm true).done = false from rfl]
            clear hk17 x0 x1 x2 x3 x4 x5 x6 x7
            have y0 : w17.cell? ⟨wr.heap.size, 0, none⟩ = some (.int .u8 (F 0)) := HBx.out.cell 0
            have y1 : w17.cell? ⟨wr.heap.size, 1, none⟩ = some (.int .u8 (F 1)) := HBx.out.cell 1
            have y2 : w17.cell? ⟨wr.heap.size, 2, none⟩ = some (.int .u8 (F 2)) := HBx.out.cell 2
            have y3 : w17.cell? ⟨wr.heap.size, 3, none⟩ = some (.int .u8 (F 3)) := HBx.out.cell 3
            have y4 : w17.cell? ⟨wr.heap.size, 4, none⟩ = some (.int .u8 (F 4)) := HBx.out.cell 4
            have y5 : w17.cell? ⟨wr.heap.size, 5, none⟩ = some (.int .u8 (F 5)) := HBx.out.cell 5
            have y6 : w17.cell? ⟨wr.heap.size, 6, none⟩ = some (.int .u8 (F 6)) := HBx.out.cell 6
            have y7 : w17.cell? ⟨wr.heap.size, 7, none⟩ = some (.int .u8 (F 7)) := HBx.out.cell 7
            by_cases hka : kk = a
            · have hka2 : (kk : Int) = (a : Int) := by omega
              have HKa := Lib.hid hka
              clear hka
              go_wp2_with fail
              have hrl := HS17.out.rcv
              have hpl := padsB_length ys a q y (segs ys)
              have hyl : ys.length ≤ 65536 := by rw [← HN.out]; omega
              by_cases hsame : (padsB ys a q y (segs ys)).take ys.length = ys
              · have hcall := feed_end_good hrl HI.out.byte hyl hpl hsame
                rw [← HFf.out] at hcall
                refine hcall.mono ?_
                rintro e w6 ⟨rfl, V6, hp⟩
                have hl6 := HS17.out.laid HBa17.out HBase.out hp.out.1 hp.out.2
                have HF6 := Lib.hid (HFr17.out.rstep HS17.out.rcv hp.out.2)
                have HS6 := Lib.hid hl6.1
                have HB6 := Lib.hid hl6.2
                clear hcall hp hl6 hsame hrl hpl hyl y0 y1 y2 y3 y4 y5 y6 y7
                rw [show aggF (fun k => if k = 0 then 161 else 0) = .agg #[.int .u8 161, .int .u8 0, .int .u8 0, .int .u8 0, .int .u8 0, .int .u8 0, .int .u8 0, .int .u8 0] from rfl]
                have z0 := (HB6.out).cell 0
                have z1 := (HB6.out).cell 1
                have z2 := (HB6.out).cell 2
                have z3 := (HB6.out).cell 3
                have z4 := (HB6.out).cell 4
                have z5 := (HB6.out).cell 5
                have z6 := (HB6.out).cell 6
                have z7 := (HB6.out).cell 7
                have zf0 := (HB6.out).frozen 0
                have zf1 := (HB6.out).frozen 1
                have zf2 := (HB6.out).frozen 2
                have zf3 := (HB6.out).frozen 3
                have zf4 := (HB6.out).frozen 4
                have zf5 := (HB6.out).frozen 5
                have zf6 := (HB6.out).frozen 6
                have zf7 := (HB6.out).frozen 7
                simp only [frameC, List.getElem?_toArray, List.getElem?_cons_zero, List.getElem?_cons_succ] at z0 z1 z2 z3 z4 z5 z6 z7
                go_wp2_with fail
                have HK7 : Hid (Keep (Own.One wo.heap.size) w6 _) := Lib.hid (keep8 (Keep.refl (Own.One wo.heap.size) w6) (.inl rfl) (.int .u8 161) (.int .u8 0) (.int .u8 0) (.int .u8 0) (.int .u8 0) (.int .u8 0) (.int .u8 0) (.int .u8 0))
                have hfr7 := HF6.out.far (fun a ha => by cases ha; exact Nat.ne_of_lt hbq) HK7.out
                have hs7 := HS6.out.far HB6.out HBase.out HK7.out
                go_roundg (1 - (i + 1))
                case measure => rw [HQi.out]; have := HI0.out; omega
                case rel => exact ⟨i + 1, kk + 1, true, by have := HI0.out; omega, rfl, by go_num, by go_num, by omega, rfl, hfr7, .inr (.inl ⟨by rw [HI0.out], rfl, V6, hs7⟩)⟩
              · have hbad : crc ((padsB ys a q y (segs ys)).take ys.length) ≠ crc ys ∧ by' ≠ 0 := by
                  rcases padsB_take ys a q y with h | ⟨_, h⟩
                  · exact absurd h hsame
                  · have hin : 7 * a + q < ys.length := by
                      rcases Nat.lt_or_ge (7 * a + q) ys.length with h1 | h1
                      · exact h1
                      · rw [h, List.set_eq_of_length_le h1] at hsame
                        exact absurd rfl hsame
                    have hgd : ys.getD (7 * a + q) 0 = ys[7 * a + q] := by
                      rw [List.getD_eq_getElem?_getD, List.getElem?_eq_getElem hin]
                      rfl
                    have hne : ys[7 * a + q] ≠ y := fun e => by
                      rw [h, ← e, List.set_getElem_self] at hsame
                      exact absurd rfl hsame
                    refine ⟨by rw [h]; exact crc_set HI.out.byte hin HYb.out.1 HYb.out.2 hne, ?_⟩
                    have hb := HI.out.byte _ (List.getElem_mem hin)
                    refine (xor_byte hb.1 hb.2 by0 by1).2.2 ?_
                    rw [← hgd, ← HYy.out, hgd]
                    exact fun e => hne e.symm
                have HBad := Lib.hid hbad
                have hcall := feed_end_bad hrl HI.out.byte hyl hpl hbad.1
                rw [← HFf.out] at hcall
                refine hcall.mono ?_
                rintro e w6 ⟨rfl, V6, hp⟩
                have hl6 := HS17.out.laid HBa17.out HBase.out hp.out.1 hp.out.2
                have HF6 := Lib.hid (HFr17.out.rstep HS17.out.rcv hp.out.2)
                have HS6 := Lib.hid hl6.1
                have HB6 := Lib.hid hl6.2
                clear hcall hp hl6 hsame hrl hpl hyl hbad y0 y1 y2 y3 y4 y5 y6 y7
                rw [show aggF (abF 84148228) = .agg #[.int .u8 (abF 84148228 0), .int .u8 (abF 84148228 1), .int .u8 (abF 84148228 2), .int .u8 (abF 84148228 3), .int .u8 (abF 84148228 4), .int .u8 (abF 84148228 5), .int .u8 (abF 84148228 6), .int .u8 (abF 84148228 7)] from rfl]
                have z0 := (HB6.out).cell 0
                have z1 := (HB6.out).cell 1
                have z2 := (HB6.out).cell 2
                have z3 := (HB6.out).cell 3
                have z4 := (HB6.out).cell 4
                have z5 := (HB6.out).cell 5
                have z6 := (HB6.out).cell 6
                have z7 := (HB6.out).cell 7
                have zf0 := (HB6.out).frozen 0
                have zf1 := (HB6.out).frozen 1
                have zf2 := (HB6.out).frozen 2
                have zf3 := (HB6.out).frozen 3
                have zf4 := (HB6.out).frozen 4
                have zf5 := (HB6.out).frozen 5
                have zf6 := (HB6.out).frozen 6
                have zf7 := (HB6.out).frozen 7
                simp only [frameC, List.getElem?_toArray, List.getElem?_cons_zero, List.getElem?_cons_succ] at z0 z1 z2 z3 z4 z5 z6 z7
                go_wp2_with fail
                have HK7 : Hid (Keep (Own.One wo.heap.size) w6 _) := Lib.hid (keep8 (Keep.refl (Own.One wo.heap.size) w6) (.inl rfl) (.int .u8 (abF 84148228 0)) (.int .u8 (abF 84148228 1)) (.int .u8 (abF 84148228 2)) (.int .u8 (abF 84148228 3)) (.int .u8 (abF 84148228 4)) (.int .u8 (abF 84148228 5)) (.int .u8 (abF 84148228 6)) (.int .u8 (abF 84148228 7)))
                have hfr7 := HF6.out.far (fun a ha => by cases ha; exact Nat.ne_of_lt hbq) HK7.out
                have hs7 := HS6.out.far HB6.out HBase.out HK7.out
                go_roundg (1 - (i + 1))
                case measure => rw [HQi.out]; have := HI0.out; omega
                case rel => exact ⟨i + 1, kk + 1, true, by have := HI0.out; omega, rfl, by go_num, by go_num, by omega, rfl, hfr7, .inr (.inr ⟨by rw [HI0.out], rfl, HBad.out.2, V6, hs7⟩)⟩
            · have hka2 : ¬ (kk : Int) = (a : Int) := by omega
              clear hka
              go_wp2_with fail
              have hrl := HS17.out.rcv
              have hpl := padsB_length ys a q y (segs ys)
              have hyl : ys.length ≤ 65536 := by rw [← HN.out]; omega
              by_cases hsame : (padsB ys a q y (segs ys)).take ys.length = ys
              · have hcall := feed_end_good hrl HI.out.byte hyl hpl hsame
                rw [← HFf.out] at hcall
                refine hcall.mono ?_
                rintro e w6 ⟨rfl, V6, hp⟩
                have hl6 := HS17.out.laid HBa17.out HBase.out hp.out.1 hp.out.2
                have HF6 := Lib.hid (HFr17.out.rstep HS17.out.rcv hp.out.2)
                have HS6 := Lib.hid hl6.1
                have HB6 := Lib.hid hl6.2
                clear hcall hp hl6 hsame hrl hpl hyl y0 y1 y2 y3 y4 y5 y6 y7
                rw [show aggF (fun k => if k = 0 then 161 else 0) = .agg #[.int .u8 161, .int .u8 0, .int .u8 0, .int .u8 0, .int .u8 0, .int .u8 0, .int .u8 0, .int .u8 0] from rfl]
                have z0 := (HB6.out).cell 0
                have z1 := (HB6.out).cell 1
                have z2 := (HB6.out).cell 2
                have z3 := (HB6.out).cell 3
                have z4 := (HB6.out).cell 4
                have z5 := (HB6.out).cell 5
                have z6 := (HB6.out).cell 6
                have z7 := (HB6.out).cell 7
                have zf0 := (HB6.out).frozen 0
                have zf1 := (HB6.out).frozen 1
                have zf2 := (HB6.out).frozen 2
                have zf3 := (HB6.out).frozen 3
                have zf4 := (HB6.out).frozen 4
                have zf5 := (HB6.out).frozen 5
                have zf6 := (HB6.out).frozen 6
                have zf7 := (HB6.out).frozen 7
                simp only [frameC, List.getElem?_toArray, List.getElem?_cons_zero, List.getElem?_cons_succ] at z0 z1 z2 z3 z4 z5 z6 z7
                go_wp2_with fail
                have HK7 : Hid (Keep (Own.One wo.heap.size) w6 _) := Lib.hid (keep8 (Keep.refl (Own.One wo.heap.size) w6) (.inl rfl) (.int .u8 161) (.int .u8 0) (.int .u8 0) (.int .u8 0) (.int .u8 0) (.int .u8 0) (.int .u8 0) (.int .u8 0))
                have hfr7 := HF6.out.far (fun a ha => by cases ha; exact Nat.ne_of_lt hbq) HK7.out
                have hs7 := HS6.out.far HB6.out HBase.out HK7.out
                go_roundg (1 - (i + 1))
                case measure => rw [HQi.out]; have := HI0.out; omega
                case rel => exact ⟨i + 1, kk + 1, true, by have := HI0.out; omega, rfl, by go_num, by go_num, by omega, rfl, hfr7, .inr (.inl ⟨by rw [HI0.out], rfl, V6, hs7⟩)⟩
              · have hbad : crc ((padsB ys a q y (segs ys)).take ys.length) ≠ crc ys ∧ by' ≠ 0 := by
                  rcases padsB_take ys a q y with h | ⟨_, h⟩
                  · exact absurd h hsame
                  · have hin : 7 * a + q < ys.length := by
                      rcases Nat.lt_or_ge (7 * a + q) ys.length with h1 | h1
                      · exact h1
                      · rw [h, List.set_eq_of_length_le h1] at hsame
                        exact absurd rfl hsame
                    have hgd : ys.getD (7 * a + q) 0 = ys[7 * a + q] := by
                      rw [List.getD_eq_getElem?_getD, List.getElem?_eq_getElem hin]
                      rfl
                    have hne : ys[7 * a + q] ≠ y := fun e => by
                      rw [h, ← e, List.set_getElem_self] at hsame
                      exact absurd rfl hsame
                    refine ⟨by rw [h]; exact crc_set HI.out.byte hin HYb.out.1 HYb.out.2 hne, ?_⟩
                    have hb := HI.out.byte _ (List.getElem_mem hin)
                    refine (xor_byte hb.1 hb.2 by0 by1).2.2 ?_
                    rw [← hgd, ← HYy.out, hgd]
                    exact fun e => hne e.symm
                have HBad := Lib.hid hbad
                have hcall := feed_end_bad hrl HI.out.byte hyl hpl hbad.1
                rw [← HFf.out] at hcall
                refine hcall.mono ?_
                rintro e w6 ⟨rfl, V6, hp⟩
                have hl6 := HS17.out.laid HBa17.out HBase.out hp.out.1 hp.out.2
                have HF6 := Lib.hid (HFr17.out.rstep HS17.out.rcv hp.out.2)
                have HS6 := Lib.hid hl6.1
                have HB6 := Lib.hid hl6.2
                clear hcall hp hl6 hsame hrl hpl hyl hbad y0 y1 y2 y3 y4 y5 y6 y7
                rw [show aggF (abF 84148228) = .agg #[.int .u8 (abF 84148228 0), .int .u8 (abF 84148228 1), .int .u8 (abF 84148228 2), .int .u8 (abF 84148228 3), .int .u8 (abF 84148228 4), .int .u8 (abF 84148228 5), .int .u8 (abF 84148228 6), .int .u8 (abF 84148228 7)] from rfl]
                have z0 := (HB6.out).cell 0
                have z1 := (HB6.out).cell 1
                have z2 := (HB6.out).cell 2
                have z3 := (HB6.out).cell 3
                have z4 := (HB6.out).cell 4
                have z5 := (HB6.out).cell 5
                have z6 := (HB6.out).cell 6
                have z7 := (HB6.out).cell 7
                have zf0 := (HB6.out).frozen 0
                have zf1 := (HB6.out).frozen 1
                have zf2 := (HB6.out).frozen 2
                have zf3 := (HB6.out).frozen 3
                have zf4 := (HB6.out).frozen 4
                have zf5 := (HB6.out).frozen 5
                have zf6 := (HB6.out).frozen 6
                have zf7 := (HB6.out).frozen 7
                simp only [frameC, List.getElem?_toArray, List.getElem?_cons_zero, List.getElem?_cons_succ] at z0 z1 z2 z3 z4 z5 z6 z7
                go_wp2_with fail
                have HK7 : Hid (Keep (Own.One wo.heap.size) w6 _) := Lib.hid (keep8 (Keep.refl (Own.One wo.heap.size) w6) (.inl rfl) (.int .u8 (abF 84148228 0)) (.int .u8 (abF 84148228 1)) (.int .u8 (abF 84148228 2)) (.int .u8 (abF 84148228 3)) (.int .u8 (abF 84148228 4)) (.int .u8 (abF 84148228 5)) (.int .u8 (abF 84148228 6)) (.int .u8 (abF 84148228 7)))
                have hfr7 := HF6.out.far (fun a ha => by cases ha; exact Nat.ne_of_lt hbq) HK7.out
                have hs7 := HS6.out.far HB6.out HBase.out HK7.out
                go_roundg (1 - (i + 1))
                case measure => rw [HQi.out]; have := HI0.out; omega
                case rel => exact ⟨i + 1, kk + 1, true, by have := HI0.out; omega, rfl, by go_num, by go_num, by omega, rfl, hfr7, .inr (.inr ⟨by rw [HI0.out], rfl, HBad.out.2, V6, hs7⟩)⟩
          · have hnl : ¬ (i : Int) < 1 := by omega
            have HS := Lib.hid hs
            clear hs hi0
            go_wp2_with fail
            refine (RDone_over HS.out.rcv rfl).mono ?_
            rintro e w10 ⟨A10, c10, rfl, hp10⟩
            have HGot := Lib.hid hp10.out.1
            have HK10 : Hid (Keep Own.Zero w w10) := Lib.hid (HS.out.keep.trans hp10.out.2 (fun _ h => h.elim))
            have HB10 : Hid (Row w10 A (ints .u8 ys)) := Lib.hid (HI.out.row.keep HK10.out (fun _ _ _ => id))
            clear hp10
            have hs1 : Sem.run Try.prog (convert 22 9 (.slice A10 n c10)) w10 = .ok (.string (str ys)) w10 := run_str under22 under5 under9 HGot.out.row n HN.out
            have hs2 : Sem.run Try.prog (convert 22 9 (.slice A n cA)) w10 = .ok (.string (str ys)) w10 := run_str under22 under5 under9 HB10.out n HN.out
            rw [show (⟨127, 2, 0, la0, V, ys, 0⟩ : Rcv).xs = ys from rfl, show (⟨127, 2, 0, la0, V, ys, 0⟩ : Rcv).code = 0 from rfl, ← HN.out]
            go_wp2_with ((with_reducible refine (lives_is _).mono ?_); rintro e w11 ⟨rfl, hk11⟩)
            go_ret
            exact ⟨rfl, HK10.out.trans hk11.out (fun _ h => h.elim)⟩
          · have hnl : ¬ (i : Int) < 1 := by omega
            have HS := Lib.hid hs
            clear hs hi0
            go_wp2_with fail
            refine (RDone_over HS.out.rcv rfl).mono ?_
            rintro e w10 ⟨A10, c10, rfl, hp10⟩
            have HK10 : Hid (Keep Own.Zero w w10) := Lib.hid (HS.out.keep.trans hp10.out.2 (fun _ h => h.elim))
            clear hp10
            rw [show (⟨127, 2, 0, la0, V, [], 84148228⟩ : Rcv).xs = [] from rfl, show (⟨127, 2, 0, la0, V, [], 84148228⟩ : Rcv).code = 84148228 from rfl]
            go_wp2_with ((with_reducible refine (lives_is _).mono ?_); rintro e w11 ⟨rfl, hk11⟩)
            go_ret
            exact ⟨rfl, HK10.out.trans hk11.out (fun _ h => h.elim)⟩
  · have hl2 : ¬ (3000 : Int) < (m : Int) := by omega
    obtain ⟨ys, hys⟩ : ∃ ys, ys = xs := ⟨_, rfl⟩
    obtain ⟨n, hn⟩ : ∃ n : Nat, n = m := ⟨_, rfl⟩
    have HI : Hid (In w A cA ys) := Lib.hid (by rw [hys]; exact h)
    have HN : Hid (n = ys.length) := Lib.hid (by rw [hys, hn]; exact hm)
    rw [← hn] at hl2 ⊢
    have hnb : n ≤ 3000 := by omega
    clear h hm hys hn ha hq
    obtain ⟨y, hy⟩ : ∃ y, y = bits .xor .u8 (ys.getD (7 * a + q) 0) by' := ⟨_, rfl⟩
    have HYy := Lib.hid hy
    have HYb : Hid (0 ≤ y ∧ y ≤ 255) := Lib.hid (by
      have hb := getD_byte HI.out.byte (7 * a + q)
      have := xor_byte hb.1 hb.2 by0 by1
      rw [hy]
      exact ⟨this.1, this.2.1⟩)
    have hnd := hy
    clear hy
    go_enter Try.func4, Try.ntmps4
    have HR1 : Hid (Row (w.alloc (.cells #[] 5)) A (ints .u8 ys)) := Lib.hid (HI.out.row.keep ((Keep.refl Own.Zero w).alloc (.cells #[] 5)) (fun _ _ _ => id))
    go_wp2_with (at_builtin; refine app_own rfl (.tmp 30) (.tmp 31) 22 rfl w.heap.size 5 (.int .u8 0) 1 1 under22 info5 rfl (by decide) (.slice (some ⟨w.heap.size, 0, none⟩) 0 0) 0 [] rfl (own_empty 1 (Blk.new w _ _)) A n cA (ints .u8 ys) rfl (by rw [ints_length, HN.out]; omega) HI.out.nil HR1.out (ints_one _ _) (by unfold maxLen; omega) (by omega) (by simp) ?_; intro v2 w2 hown2 hgr2)
    have HO2 : Hid (w2.ownsRow w.heap.size 5 1 v2 n (ints .u8 ys)) := Lib.hid (by have h := hown2; rw [Nat.zero_add, List.nil_append] at h; exact h)
    have HK2 : Hid (Keep Own.Zero w w2) := Lib.hid (((Keep.refl Own.Zero w).alloc _).grown hgr2 (fun k hk => .inr (by cases hk; exact Nat.le_refl _)))
    clear hown2 hgr2
    obtain ⟨A2, c2, rfl, hi2, _⟩ := own_in HO2.out HN.out HI.out.byte
    have HI2 := Lib.hid hi2
    clear hi2
    go_wp2_with fail
    refine (NewSender_ok HI2.out (by rw [← HN.out]; omega) n HN.out).mono ?_
    rintro e w1 ⟨gs, A1, c1, rfl, hp1⟩
    have HP1 := hp1
    have HA1 : Hid (∀ a, A1 = some a → a.block < w1.heap.size) := Lib.hid (fun a ha => (HP1.out.2.2.2 a ha).2)
    clear hp1
    go_wp2_with fail
    refine (NewReceiver_ok w1 127 (by decide) (by decide)).mono ?_
    rintro e w3 ⟨gr, rfl, hp2⟩
    have HP2 := hp2
    clear hp2
    go_wp2_with fail
    refine (Begin_ok (HP1.out.1.keep HP2.out.2.1 id (fun _ _ => id)) rfl rfl 127 (by decide) (by decide) _ rfl).mono ?_
    rintro e w5 ⟨A5, c5, rfl, hp3⟩
    have HD5 : Hid (DataSt w w5 gs gr w1.heap.size A1 c1 ys 127 0 (min 127 (segs ys)) A5 c5) := Lib.hid (by
      have hS2 : Sess w w3 gs gr w1.heap.size ⟨A1, c1, ys, 0, 0, false, false, false, 0⟩ (rAt 127 0 0 ys (fun _ => 0) (.slice none 0 0)) :=
        ⟨HP1.out.1.keep HP2.out.2.1 id (fun _ _ => id), HP2.out.1, HP1.out.1.blk.lt, HA1.out, HP2.out.2.2, (HK2.out.trans HP1.out.2.1 (fun _ h => h.elim)).trans HP2.out.2.1 (fun _ h => h.elim), Nat.le_trans HK2.out.size HP1.out.2.2.1⟩
      exact ⟨_, _, hS2.sstep hp3.out.1 rfl hp3.out.2.2, own_mono hp3.out.2.1 hS2.keep.size, (segs_bound ys).2.2⟩)
    clear HP1 HP2 hp3 HA1 HO2 HI2
    obtain ⟨m0, hm0⟩ : ∃ m0, m0 = min 127 (segs ys) := ⟨_, rfl⟩
    rw [show (⟨A1, c1, ys, 0, 0, false, false, false, 0⟩ : Snd).bs = ys from rfl, ← hm0]
    rw [← hm0] at HD5
    have HM0 := Lib.hid hm0
    clear hm0
    go_wp2_with fail
    have HT5 : Hid (ToldSt w w5 gs gr w1.heap.size A1 c1 ys a q y (127 * 0) m0 A5 c5) := Lib.hid (by
      obtain ⟨la, V, hs, hf, _⟩ := HD5.out
      refine ⟨la, V, ?_, hf⟩
      have e : padsB ys a q y (127 * 0) = pads ys (0 + 0) := by
        unfold padsB
        rw [if_neg (by omega)]
      rw [e]
      exact hs)
    clear HD5
    clear hnd
    go_loopg [11, 13, 14] 2000 (fun q' s11 s13 s14 wr => ∃ bl Af c m kn, q' = 2000 - bl ∧ bl ≤ segs ys ∧ s14 = .int .i64 (bl : Nat) ∧ s13 = .int .i64 (kn : Nat) ∧ s11 = .slice Af m c ∧
      ((kn = 127 * bl ∧ ToldSt w wr gs gr w1.heap.size A1 c1 ys a q y (127 * bl) m Af c ∧ 127 * bl < segs ys ∧ m = min 127 (segs ys - 127 * bl)) ∨ (kn ≤ segs ys ∧ ToldEnd w wr gs gr w1.heap.size A1 c1 ys a q y m Af c)))
    case atStart => exact ⟨0, A5, c5, m0, 0, rfl, Nat.zero_le _, rfl, rfl, rfl, .inl ⟨rfl, HT5.out, (segs_bound ys).2.2, HM0.out⟩⟩
    case round =>
      obtain ⟨bl, Af, c, m, kn, hq, hb2, rfl, rfl, rfl, hst⟩ := hrel
      have HQ := Lib.hid hq
      have sb := segs_bound ys
      rw [← HN.out] at sb
      obtain ⟨N, hN⟩ : ∃ N, N = segs ys := ⟨_, rfl⟩
      rw [← hN] at hb2 sb
      have hNb : N ≤ 430 := by omega
      have HNn := Lib.hid hN
      have hlt : (bl : Int) < 2000 := by omega
      clear hq hN sb
      obtain ⟨wo, hwo⟩ : ∃ x, x = wr := ⟨_, rfl⟩
      subst hwo
      rcases hst with ⟨hkn, hst, hpN, hm⟩ | ⟨hkn, hst⟩
      · obtain ⟨la0, V0, hs0, hf0⟩ := hst
        obtain ⟨p, hp⟩ : ∃ p, p = 127 * bl := ⟨_, rfl⟩
        rw [← hp] at hkn hs0 hf0 hpN hm
        rw [← HNn.out] at hpN hm
        have HPp := Lib.hid hp
        have hm1 : 1 ≤ m := by omega
        have hmk : m ≤ 127 := by omega
        have hmN : p + m ≤ N := by omega
        obtain ⟨bq, oq, rfl, hbq, _⟩ := fr_at hf0.row (framesF_get (bs := ys) (p := p) (show 0 < m by omega))
        have HS0 := Lib.hid hs0
        have HF0' := Lib.hid hf0
        have HMm := Lib.hid hm
        have HBase : Hid (w1.heap.size ≤ wo.heap.size) := Lib.hid hs0.rcv.bs
        have HKn := Lib.hid hkn
        clear hs0 hf0 hm hp hkn
        go_wp2_with fail
        go_loopg [13, 16, 17] m (fun q' s13 s16 s17 wi => ∃ i kk is, i ≤ m ∧ q' = m - i ∧ s17 = .int .i64 (i : Nat) ∧ s13 = .int .i64 (kk : Nat) ∧ kk = p + i ∧ s16 = .bool is ∧ FrAt wi w.heap.size (some ⟨bq, oq, none⟩) m c (framesF ys p m) ∧ ToldIn w wi gs gr w1.heap.size A1 c1 ys a q y p m i wo.heap.size is)
        case atStart => exact ⟨0, kn, false, Nat.zero_le _, rfl, rfl, rfl, HKn.out, rfl, HF0'.out.new ((Keep.refl Own.Zero wo).alloc _), .inl ⟨rfl, by rw [← HNn.out]; exact hpN, by decide, la0, V0, fun _ => 0, HS0.out.new ((Keep.refl Own.Zero wo).alloc _), Blk.new wo _ _⟩⟩
        case round =>
          obtain ⟨i, kk, is, him, hqi, rfl, rfl, hkk, rfl, hfr, hwi⟩ := hrel
          have HQi := Lib.hid hqi
          have HFr := Lib.hid hfr
          have HKk := Lib.hid hkk
          have hkb : kk ≤ 1000 := by omega
          clear hqi hfr
          by_cases hilt : i < m
          · have hi1 : (i : Int) < (m : Int) := by omega
            have hi0 : (0 : Int) ≤ (i : Int) := by omega
            rcases hwi with ⟨rfl, hpiN, hi127, la, V, G, hs, hba⟩ | ⟨rfl, him2, _⟩
            · have HS := Lib.hid hs
              have HBa := Lib.hid hba
              obtain ⟨F, hF⟩ : ∃ F, F = segF ys (p + i) i := ⟨_, rfl⟩
              have HFf := Lib.hid hF
              have HF0 : Hid (segF ys (p + i) i 0 = ((i + 1 : Nat) : Int) + (if decide (p + i + 1 = segs ys) = true then 128 else 0)) := Lib.hid (by
                unfold segF
                rw [if_pos rfl]
                simp only [decide_eq_true_eq]
                omega)
              obtain ⟨b', o', hb', _, hz⟩ := fr_at HFr.out.row (framesF_get (bs := ys) (p := p) hilt)
              cases hb'
              rw [← hF] at hz
              have x0 := hz 0 (by omega)
              have x1 := hz 1 (by omega)
              have x2 := hz 2 (by omega)
              have x3 := hz 3 (by omega)
              have x4 := hz 4 (by omega)
              have x5 := hz 5 (by omega)
              have x6 := hz 6 (by omega)
              have x7 := hz 7 (by omega)
              simp only [← Nat.add_assoc, Nat.add_zero] at x0 x1 x2 x3 x4 x5 x6 x7
              rw [← HNn.out] at hpiN
              clear hs hba hF hz
              go_wp2_with fail
              have HWo : Hid (wo.heap.size < wr.heap.size) := Lib.hid HBa.out.lt
              have HBs2 : Hid (w1.heap.size ≤ wr.heap.size) := Lib.hid HS.out.rcv.bs
              refine (SDone_is (HS.out.new ((Keep.refl Own.Zero wr).alloc _)).snd).mono ?_
              rintro e w17 ⟨rfl, hk17⟩
              have HK17 : Hid (Keep Own.Zero wr w17) := Lib.hid (((Keep.refl Own.Zero wr).alloc _).trans hk17.out (fun _ h => h.elim))
              have HBx : Hid (Blk w17 wr.heap.size #[.int .u8 (F 0), .int .u8 (F 1), .int .u8 (F 2), .int .u8 (F 3), .int .u8 (F 4), .int .u8 (F 5), .int .u8 (F 6), .int .u8 (F 7)] 30) := Lib.hid ((Blk.new wr _ _).keep hk17.out id)
              have HS17 := Lib.hid (HS.out.new HK17.out)
              have HBa17 := Lib.hid (HBa.out.keep HK17.out id)
              have HFr17 := Lib.hid (HFr.out.new HK17.out)
              rw [show (sndAt A1 c1 ys p m false).code = 0 from rfl, show (sndAt A1 c1 ys p m false).done = false from rfl]
              clear hk17 x0 x1 x2 x3 x4 x5 x6 x7
              have y0 : w17.cell? ⟨wr.heap.size, 0, none⟩ = some (.int .u8 (F 0)) := HBx.out.cell 0
              have y1 : w17.cell? ⟨wr.heap.size, 1, none⟩ = some (.int .u8 (F 1)) := HBx.out.cell 1
              have y2 : w17.cell? ⟨wr.heap.size, 2, none⟩ = some (.int .u8 (F 2)) := HBx.out.cell 2
              have y3 : w17.cell? ⟨wr.heap.size, 3, none⟩ = some (.int .u8 (F 3)) := HBx.out.cell 3
              have y4 : w17.cell? ⟨wr.heap.size, 4, none⟩ = some (.int .u8 (F 4)) := HBx.out.cell 4
              have y5 : w17.cell? ⟨wr.heap.size, 5, none⟩ = some (.int .u8 (F 5)) := HBx.out.cell 5
              have y6 : w17.cell? ⟨wr.heap.size, 6, none⟩ = some (.int .u8 (F 6)) := HBx.out.cell 6
              have y7 : w17.cell? ⟨wr.heap.size, 7, none⟩ = some (.int .u8 (F 7)) := HBx.out.cell 7
              have HXf : Hid (∀ j, w17.frozen? ⟨wr.heap.size, j, none⟩ = false) := Lib.hid (fun j => HBx.out.frozen j)
              by_cases hka : kk = a
              · have hka2 : (kk : Int) = (a : Int) := by omega
                by_cases hf193 : F 0 < 193
                · have HHa : Hid (p + i = a) := Lib.hid (by have := HKk.out; omega)
                  have HHit : Hid (hit ys a) := Lib.hid (by
                    have h1 := HHa.out
                    have h2 := HPp.out
                    refine ⟨by have := HNn.out; omega, ?_⟩
                    have h3 := HFf.out
                    rw [h3, h1] at hf193
                    rw [show a % 127 = i by omega]
                    exact hf193)
                  have HKa := Lib.hid hka
                  clear hka
                  have fj1 := HXf.out 1
                  have fj2 := HXf.out 2
                  have fj3 := HXf.out 3
                  have fj4 := HXf.out 4
                  have fj5 := HXf.out 5
                  have fj6 := HXf.out 6
                  have fj7 := HXf.out 7
                  rcases hq8 with rfl | rfl | rfl | rfl | rfl | rfl | rfl
                  · skip
                    have hmod : (atn : Int) % 7 = 0 := by have := HQ7.out; omega
                    have hxy : bits .xor .u8 (F 1) by' = y := by
                      rw [HYy.out, HFf.out]
                      unfold segF
                      rw [if_neg (by decide), HHa.out]
                    have HBent : Hid (∀ k, 0 ≤ bent F 1 y k ∧ bent F 1 y k ≤ 255) := Lib.hid (fun k => by
                      unfold bent
                      split
                      · exact HYb.out
                      · rw [HFf.out]
                        exact segF_byte HI.out.byte _ _ (by omega) k)
                    go_wp2_with fail
                    have HK19 : Hid (Keep (Own.One wr.heap.size) w17 (w17.setCell ⟨wr.heap.size, 1, none⟩ (.int .u8 y))) := Lib.hid ((Keep.refl (Own.One wr.heap.size) w17).set1 1 _)
                    have HS19 := Lib.hid (HS17.out.far HBx.out HBs2.out HK19.out)
                    have HBa19 := Lib.hid (HBa17.out.keep HK19.out (fun e => by have e' : wo.heap.size = wr.heap.size := e; have := HWo.out; omega))
                    have HFr19 := Lib.hid (HFr17.out.far (fun a ha => by cases ha; have := HWo.out; exact Nat.ne_of_lt (Nat.lt_trans hbq this)) HK19.out)
                    have hcall := feed_any (HS19.out).rcv (bent F 1 y) (HBent.out) (by omega) (decide (p + i + 1 = segs ys)) (by show F 0 = _; rw [HFf.out]; exact HF0.out) (by rw [padsB_length]; omega)
                    refine hcall.mono ?_
                    rintro e w6 (⟨hc9, rfl, V6, hp⟩ | ⟨hc9, rfl, V6, hp⟩)
                    · have hl6 := (HS19.out).laid (HBa19.out) HBase.out hp.out.1 hp.out.2
                      have HF6 := Lib.hid ((HFr19.out).rstep (HS19.out).rcv hp.out.2)
                      have him1 : i + 1 = m := by
                        have := HMm.out
                        have := HNn.out
                        rw [decide_eq_true_eq] at hc9
                        omega
                      have HX6 := (show padsB ys a 0 y (p + i) ++ seven (bent F 1 y) = padsB ys a 0 y (p + (i + 1)) by rw [HFf.out, ← Nat.add_assoc, HHa.out]; exact (padsB_hit (by omega) HHit.out i).symm)
                      rw [HX6, him1] at hl6
                      have HS6 : Hid (Sess w w6 gs gr w1.heap.size (sndAt A1 c1 ys p m false) ⟨127, if p + m = segs ys then 1 else 0, 0, ansF m 127, V6, padsB ys a 0 y (p + m), 0⟩) := Lib.hid (by
                        have h := hl6.1
                        rw [show p + i + 1 = p + m by omega] at h
                        simp only [decide_eq_true_eq] at h
                        exact h)
                      have HB6 := Lib.hid hl6.2
                      have HM1 := Lib.hid him1
                      clear hcall hp hl6 hc9 HX6 him1
                      rw [HM1.out, aggF_ans]
                      have z0 := (HB6.out).cell 0
                      have z1 := (HB6.out).cell 1
                      have z2 := (HB6.out).cell 2
                      have z3 := (HB6.out).cell 3
                      have z4 := (HB6.out).cell 4
                      have z5 := (HB6.out).cell 5
                      have z6 := (HB6.out).cell 6
                      have z7 := (HB6.out).cell 7
                      have zf0 := (HB6.out).frozen 0
                      have zf1 := (HB6.out).frozen 1
                      have zf2 := (HB6.out).frozen 2
                      have zf3 := (HB6.out).frozen 3
                      have zf4 := (HB6.out).frozen 4
                      have zf5 := (HB6.out).frozen 5
                      have zf6 := (HB6.out).frozen 6
                      have zf7 := (HB6.out).frozen 7
                      simp only [frameC, List.getElem?_toArray, List.getElem?_cons_zero, List.getElem?_cons_succ] at z0 z1 z2 z3 z4 z5 z6 z7
                      go_wp2_with fail
                      have HK7 : Hid (Keep (Own.One wo.heap.size) w6 _) := Lib.hid (keep8 (Keep.refl (Own.One wo.heap.size) w6) (.inl rfl) (.int .u8 162) (.int .u8 m) (.int .u8 127) (.int .u8 0) (.int .u8 0) (.int .u8 0) (.int .u8 0) (.int .u8 0))
                      have hfr7 := HF6.out.far (fun a ha => by cases ha; exact Nat.ne_of_lt hbq) HK7.out
                      have hs7 := HS6.out.far HB6.out HBase.out HK7.out
                      have hb7 := blk8 HB6.out (.int .u8 162) (.int .u8 m) (.int .u8 127) (.int .u8 0) (.int .u8 0) (.int .u8 0) (.int .u8 0) (.int .u8 0)
                      go_roundg (m - (i + 1))
                      case measure => rw [HQi.out]; omega
                      case rel => exact ⟨i + 1, kk + 1, true, hilt, rfl, by go_num, by go_num, by have := HKk.out; omega, rfl, hfr7, .inr ⟨rfl, HM1.out, V6, hs7, hb7⟩⟩
                    · have hl6 := (HS19.out).laid (HBa19.out) HBase.out hp.out.1 hp.out.2
                      have HF6 := Lib.hid ((HFr19.out).rstep (HS19.out).rcv hp.out.2)
                      have hlt6 : p + (i + 1) < segs ys ∧ i + 1 < 127 := by
                        have := HNn.out
                        rw [decide_eq_true_eq] at hc9
                        omega
                      have HLt := Lib.hid hlt6
                      have HX6 := (show padsB ys a 0 y (p + i) ++ seven (bent F 1 y) = padsB ys a 0 y (p + (i + 1)) by rw [HFf.out, ← Nat.add_assoc, HHa.out]; exact (padsB_hit (by omega) HHit.out i).symm)
                      rw [HX6] at hl6
                      have HS6 := Lib.hid hl6.1
                      have HB6 := Lib.hid hl6.2
                      clear hcall hp hl6 hc9 HX6 hlt6
                      rw [aggF_0]
                      have z0 := (HB6.out).cell 0
                      have z1 := (HB6.out).cell 1
                      have z2 := (HB6.out).cell 2
                      have z3 := (HB6.out).cell 3
                      have z4 := (HB6.out).cell 4
                      have z5 := (HB6.out).cell 5
                      have z6 := (HB6.out).cell 6
                      have z7 := (HB6.out).cell 7
                      have zf0 := (HB6.out).frozen 0
                      have zf1 := (HB6.out).frozen 1
                      have zf2 := (HB6.out).frozen 2
                      have zf3 := (HB6.out).frozen 3
                      have zf4 := (HB6.out).frozen 4
                      have zf5 := (HB6.out).frozen 5
                      have zf6 := (HB6.out).frozen 6
                      have zf7 := (HB6.out).frozen 7
                      simp only [frameC, List.getElem?_toArray, List.getElem?_cons_zero, List.getElem?_cons_succ] at z0 z1 z2 z3 z4 z5 z6 z7
                      go_wp2_with fail
                      have HK7 : Hid (Keep (Own.One wo.heap.size) w6 _) := Lib.hid (keep8 (Keep.refl (Own.One wo.heap.size) w6) (.inl rfl) (.int .u8 0) (.int .u8 0) (.int .u8 0) (.int .u8 0) (.int .u8 0) (.int .u8 0) (.int .u8 0) (.int .u8 0))
                      have hfr7 := HF6.out.far (fun a ha => by cases ha; exact Nat.ne_of_lt hbq) HK7.out
                      have hs7 := HS6.out.far HB6.out HBase.out HK7.out
                      have hb7 := blk8 HB6.out (.int .u8 0) (.int .u8 0) (.int .u8 0) (.int .u8 0) (.int .u8 0) (.int .u8 0) (.int .u8 0) (.int .u8 0)
                      go_roundg (m - (i + 1))
                      case measure => rw [HQi.out]; omega
                      case rel => exact ⟨i + 1, kk + 1, false, hilt, rfl, by go_num, by go_num, by have := HKk.out; omega, rfl, hfr7, .inl ⟨rfl, HLt.out.1, HLt.out.2, la, V6, fun _ => 0, hs7, hb7⟩⟩
                  · skip
                    have hmod : (atn : Int) % 7 = 1 := by have := HQ7.out; omega
                    have hxy : bits .xor .u8 (F 2) by' = y := by
                      rw [HYy.out, HFf.out]
                      unfold segF
                      rw [if_neg (by decide), HHa.out]
                    have HBent : Hid (∀ k, 0 ≤ bent F 2 y k ∧ bent F 2 y k ≤ 255) := Lib.hid (fun k => by
                      unfold bent
                      split
                      · exact HYb.out
                      · rw [HFf.out]
                        exact segF_byte HI.out.byte _ _ (by omega) k)
                    go_wp2_with fail
                    have HK19 : Hid (Keep (Own.One wr.heap.size) w17 (w17.setCell ⟨wr.heap.size, 2, none⟩ (.int .u8 y))) := Lib.hid ((Keep.refl (Own.One wr.heap.size) w17).set1 2 _)
                    have HS19 := Lib.hid (HS17.out.far HBx.out HBs2.out HK19.out)
                    have HBa19 := Lib.hid (HBa17.out.keep HK19.out (fun e => by have e' : wo.heap.size = wr.heap.size := e; have := HWo.out; omega))
                    have HFr19 := Lib.hid (HFr17.out.far (fun a ha => by cases ha; have := HWo.out; exact Nat.ne_of_lt (Nat.lt_trans hbq this)) HK19.out)
                    have hcall := feed_any (HS19.out).rcv (bent F 2 y) (HBent.out) (by omega) (decide (p + i + 1 = segs ys)) (by show F 0 = _; rw [HFf.out]; exact HF0.out) (by rw [padsB_length]; omega)
                    refine hcall.mono ?_
                    rintro e w6 (⟨hc9, rfl, V6, hp⟩ | ⟨hc9, rfl, V6, hp⟩)
                    · have hl6 := (HS19.out).laid (HBa19.out) HBase.out hp.out.1 hp.out.2
                      have HF6 := Lib.hid ((HFr19.out).rstep (HS19.out).rcv hp.out.2)
                      have him1 : i + 1 = m := by
                        have := HMm.out
                        have := HNn.out
                        rw [decide_eq_true_eq] at hc9
                        omega
                      have HX6 := (show padsB ys a 1 y (p + i) ++ seven (bent F 2 y) = padsB ys a 1 y (p + (i + 1)) by rw [HFf.out, ← Nat.add_assoc, HHa.out]; exact (padsB_hit (by omega) HHit.out i).symm)
                      rw [HX6, him1] at hl6
                      have HS6 : Hid (Sess w w6 gs gr w1.heap.size (sndAt A1 c1 ys p m false) ⟨127, if p + m = segs ys then 1 else 0, 0, ansF m 127, V6, padsB ys a 1 y (p + m), 0⟩) := Lib.hid (by
                        have h := hl6.1
                        rw [show p + i + 1 = p + m by omega] at h
                        simp only [decide_eq_true_eq] at h
                        exact h)
                      have HB6 := Lib.hid hl6.2
                      have HM1 := Lib.hid him1
                      clear hcall hp hl6 hc9 HX6 him1
                      rw [HM1.out, aggF_ans]
                      have z0 := (HB6.out).cell 0
                      have z1 := (HB6.out).cell 1
                      have z2 := (HB6.out).cell 2
                      have z3 := (HB6.out).cell 3
                      have z4 := (HB6.out).cell 4
                      have z5 := (HB6.out).cell 5
                      have z6 := (HB6.out).cell 6
                      have z7 := (HB6.out).cell 7
                      have zf0 := (HB6.out).frozen 0
                      have zf1 := (HB6.out).frozen 1
                      have zf2 := (HB6.out).frozen 2
                      have zf3 := (HB6.out).frozen 3
                      have zf4 := (HB6.out).frozen 4
                      have zf5 := (HB6.out).frozen 5
                      have zf6 := (HB6.out).frozen 6
                      have zf7 := (HB6.out).frozen 7
                      simp only [frameC, List.getElem?_toArray, List.getElem?_cons_zero, List.getElem?_cons_succ] at z0 z1 z2 z3 z4 z5 z6 z7
                      go_wp2_with fail
                      have HK7 : Hid (Keep (Own.One wo.heap.size) w6 _) := Lib.hid (keep8 (Keep.refl (Own.One wo.heap.size) w6) (.inl rfl) (.int .u8 162) (.int .u8 m) (.int .u8 127) (.int .u8 0) (.int .u8 0) (.int .u8 0) (.int .u8 0) (.int .u8 0))
                      have hfr7 := HF6.out.far (fun a ha => by cases ha; exact Nat.ne_of_lt hbq) HK7.out
                      have hs7 := HS6.out.far HB6.out HBase.out HK7.out
                      have hb7 := blk8 HB6.out (.int .u8 162) (.int .u8 m) (.int .u8 127) (.int .u8 0) (.int .u8 0) (.int .u8 0) (.int .u8 0) (.int .u8 0)
                      go_roundg (m - (i + 1))
                      case measure => rw [HQi.out]; omega
                      case rel => exact ⟨i + 1, kk + 1, true, hilt, rfl, by go_num, by go_num, by have := HKk.out; omega, rfl, hfr7, .inr ⟨rfl, HM1.out, V6, hs7, hb7⟩⟩
                    · have hl6 := (HS19.out).laid (HBa19.out) HBase.out hp.out.1 hp.out.2
                      have HF6 := Lib.hid ((HFr19.out).rstep (HS19.out).rcv hp.out.2)
                      have hlt6 : p + (i + 1) < segs ys ∧ i + 1 < 127 := by
                        have := HNn.out
                        rw [decide_eq_true_eq] at hc9
                        omega
                      have HLt := Lib.hid hlt6
                      have HX6 := (show padsB ys a 1 y (p + i) ++ seven (bent F 2 y) = padsB ys a 1 y (p + (i + 1)) by rw [HFf.out, ← Nat.add_assoc, HHa.out]; exact (padsB_hit (by omega) HHit.out i).symm)
                      rw [HX6] at hl6
                      have HS6 := Lib.hid hl6.1
                      have HB6 := Lib.hid hl6.2
                      clear hcall hp hl6 hc9 HX6 hlt6
                      rw [aggF_0]
                      have z0 := (HB6.out).cell 0
                      have z1 := (HB6.out).cell 1
                      have z2 := (HB6.out).cell 2
                      have z3 := (HB6.out).cell 3
                      have z4 := (HB6.out).cell 4
                      have z5 := (HB6.out).cell 5
                      have z6 := (HB6.out).cell 6
                      have z7 := (HB6.out).cell 7
                      have zf0 := (HB6.out).frozen 0
                      have zf1 := (HB6.out).frozen 1
                      have zf2 := (HB6.out).frozen 2
                      have zf3 := (HB6.out).frozen 3
                      have zf4 := (HB6.out).frozen 4
                      have zf5 := (HB6.out).frozen 5
                      have zf6 := (HB6.out).frozen 6
                      have zf7 := (HB6.out).frozen 7
                      simp only [frameC, List.getElem?_toArray, List.getElem?_cons_zero, List.getElem?_cons_succ] at z0 z1 z2 z3 z4 z5 z6 z7
                      go_wp2_with fail
                      have HK7 : Hid (Keep (Own.One wo.heap.size) w6 _) := Lib.hid (keep8 (Keep.refl (Own.One wo.heap.size) w6) (.inl rfl) (.int .u8 0) (.int .u8 0) (.int .u8 0) (.int .u8 0) (.int .u8 0) (.int .u8 0) (.int .u8 0) (.int .u8 0))
                      have hfr7 := HF6.out.far (fun a ha => by cases ha; exact Nat.ne_of_lt hbq) HK7.out
                      have hs7 := HS6.out.far HB6.out HBase.out HK7.out
                      have hb7 := blk8 HB6.out (.int .u8 0) (.int .u8 0) (.int .u8 0) (.int .u8 0) (.int .u8 0) (.int .u8 0) (.int .u8 0) (.int .u8 0)
                      go_roundg (m - (i + 1))
                      case measure => rw [HQi.out]; omega
                      case rel => exact ⟨i + 1, kk + 1, false, hilt, rfl, by go_num, by go_num, by have := HKk.out; omega, rfl, hfr7, .inl ⟨rfl, HLt.out.1, HLt.out.2, la, V6, fun _ => 0, hs7, hb7⟩⟩
                  · skip
                    have hmod : (atn : Int) % 7 = 2 := by have := HQ7.out; omega
                    have hxy : bits .xor .u8 (F 3) by' = y := by
                      rw [HYy.out, HFf.out]
                      unfold segF
                      rw [if_neg (by decide), HHa.out]
                    have HBent : Hid (∀ k, 0 ≤ bent F 3 y k ∧ bent F 3 y k ≤ 255) := Lib.hid (fun k => by
                      unfold bent
                      split
                      · exact HYb.out
                      · rw [HFf.out]
                        exact segF_byte HI.out.byte _ _ (by omega) k)
                    go_wp2_with fail
                    have HK19 : Hid (Keep (Own.One wr.heap.size) w17 (w17.setCell ⟨wr.heap.size, 3, none⟩ (.int .u8 y))) := Lib.hid ((Keep.refl (Own.One wr.heap.size) w17).set1 3 _)
                    have HS19 := Lib.hid (HS17.out.far HBx.out HBs2.out HK19.out)
                    have HBa19 := Lib.hid (HBa17.out.keep HK19.out (fun e => by have e' : wo.heap.size = wr.heap.size := e; have := HWo.out; omega))
                    have HFr19 := Lib.hid (HFr17.out.far (fun a ha => by cases ha; have := HWo.out; exact Nat.ne_of_lt (Nat.lt_trans hbq this)) HK19.out)
                    have hcall := feed_any (HS19.out).rcv (bent F 3 y) (HBent.out) (by omega) (decide (p + i + 1 = segs ys)) (by show F 0 = _; rw [HFf.out]; exact HF0.out) (by rw [padsB_length]; omega)
                    refine hcall.mono ?_
                    rintro e w6 (⟨hc9, rfl, V6, hp⟩ | ⟨hc9, rfl, V6, hp⟩)
                    · have hl6 := (HS19.out).laid (HBa19.out) HBase.out hp.out.1 hp.out.2
                      have HF6 := Lib.hid ((HFr19.out).rstep (HS19.out).rcv hp.out.2)
                      have him1 : i + 1 = m := by
                        have := HMm.out
                        have := HNn.out
                        rw [decide_eq_true_eq] at hc9
                        omega
                      have HX6 := (show padsB ys a 2 y (p + i) ++ seven (bent F 3 y) = padsB ys a 2 y (p + (i + 1)) by rw [HFf.out, ← Nat.add_assoc, HHa.out]; exact (padsB_hit (by omega) HHit.out i).symm)
                      rw [HX6, him1] at hl6
                      have HS6 : Hid (Sess w w6 gs gr w1.heap.size (sndAt A1 c1 ys p m false) ⟨127, if p + m = segs ys then 1 else 0, 0, ansF m 127, V6, padsB ys a 2 y (p + m), 0⟩) := Lib.hid (by
                        have h := hl6.1
                        rw [show p + i + 1 = p + m by omega] at h
                        simp only [decide_eq_true_eq] at h
                        exact h)
                      have HB6 := Lib.hid hl6.2
                      have HM1 := Lib.hid him1
                      clear hcall hp hl6 hc9 HX6 him1
                      rw [HM1.out, aggF_ans]
                      have z0 := (HB6.out).cell 0
                      have z1 := (HB6.out).cell 1
                      have z2 := (HB6.out).cell 2
                      have z3 := (HB6.out).cell 3
                      have z4 := (HB6.out).cell 4
                      have z5 := (HB6.out).cell 5
                      have z6 := (HB6.out).cell 6
                      have z7 := (HB6.out).cell 7
                      have zf0 := (HB6.out).frozen 0
                      have zf1 := (HB6.out).frozen 1
                      have zf2 := (HB6.out).frozen 2
                      have zf3 := (HB6.out).frozen 3
                      have zf4 := (HB6.out).frozen 4
                      have zf5 := (HB6.out).frozen 5
                      have zf6 := (HB6.out).frozen 6
                      have zf7 := (HB6.out).frozen 7
                      simp only [frameC, List.getElem?_toArray, List.getElem?_cons_zero, List.getElem?_cons_succ] at z0 z1 z2 z3 z4 z5 z6 z7
                      go_wp2_with fail
                      have HK7 : Hid (Keep (Own.One wo.heap.size) w6 _) := Lib.hid (keep8 (Keep.refl (Own.One wo.heap.size) w6) (.inl rfl) (.int .u8 162) (.int .u8 m) (.int .u8 127) (.int .u8 0) (.int .u8 0) (.int .u8 0) (.int .u8 0) (.int .u8 0))
                      have hfr7 := HF6.out.far (fun a ha => by cases ha; exact Nat.ne_of_lt hbq) HK7.out
                      have hs7 := HS6.out.far HB6.out HBase.out HK7.out
                      have hb7 := blk8 HB6.out (.int .u8 162) (.int .u8 m) (.int .u8 127) (.int .u8 0) (.int .u8 0) (.int .u8 0) (.int .u8 0) (.int .u8 0)
                      go_roundg (m - (i + 1))
                      case measure => rw [HQi.out]; omega
                      case rel => exact ⟨i + 1, kk + 1, true, hilt, rfl, by go_num, by go_num, by have := HKk.out; omega, rfl, hfr7, .inr ⟨rfl, HM1.out, V6, hs7, hb7⟩⟩
                    · have hl6 := (HS19.out).laid (HBa19.out) HBase.out hp.out.1 hp.out.2
                      have HF6 := Lib.hid ((HFr19.out).rstep (HS19.out).rcv hp.out.2)
                      have hlt6 : p + (i + 1) < segs ys ∧ i + 1 < 127 := by
                        have := HNn.out
                        rw [decide_eq_true_eq] at hc9
                        omega
                      have HLt := Lib.hid hlt6
                      have HX6 := (show padsB ys a 2 y (p + i) ++ seven (bent F 3 y) = padsB ys a 2 y (p + (i + 1)) by rw [HFf.out, ← Nat.add_assoc, HHa.out]; exact (padsB_hit (by omega) HHit.out i).symm)
                      rw [HX6] at hl6
                      have HS6 := Lib.hid hl6.1
                      have HB6 := Lib.hid hl6.2
                      clear hcall hp hl6 hc9 HX6 hlt6
                      rw [aggF_0]
                      have z0 := (HB6.out).cell 0
                      have z1 := (HB6.out).cell 1
                      have z2 := (HB6.out).cell 2
                      have z3 := (HB6.out).cell 3
                      have z4 := (HB6.out).cell 4
                      have z5 := (HB6.out).cell 5
                      have z6 := (HB6.out).cell 6
                      have z7 := (HB6.out).cell 7
                      have zf0 := (HB6.out).frozen 0
                      have zf1 := (HB6.out).frozen 1
                      have zf2 := (HB6.out).frozen 2
                      have zf3 := (HB6.out).frozen 3
                      have zf4 := (HB6.out).frozen 4
                      have zf5 := (HB6.out).frozen 5
                      have zf6 := (HB6.out).frozen 6
                      have zf7 := (HB6.out).frozen 7
                      simp only [frameC, List.getElem?_toArray, List.getElem?_cons_zero, List.getElem?_cons_succ] at z0 z1 z2 z3 z4 z5 z6 z7
                      go_wp2_with fail
                      have HK7 : Hid (Keep (Own.One wo.heap.size) w6 _) := Lib.hid (keep8 (Keep.refl (Own.One wo.heap.size) w6) (.inl rfl) (.int .u8 0) (.int .u8 0) (.int .u8 0) (.int .u8 0) (.int .u8 0) (.int .u8 0) (.int .u8 0) (.int .u8 0))
                      have hfr7 := HF6.out.far (fun a ha => by cases ha; exact Nat.ne_of_lt hbq) HK7.out
                      have hs7 := HS6.out.far HB6.out HBase.out HK7.out
                      have hb7 := blk8 HB6.out (.int .u8 0) (.int .u8 0) (.int .u8 0) (.int .u8 0) (.int .u8 0) (.int .u8 0) (.int .u8 0) (.int .u8 0)
                      go_roundg (m - (i + 1))
                      case measure => rw [HQi.out]; omega
                      case rel => exact ⟨i + 1, kk + 1, false, hilt, rfl, by go_num, by go_num, by have := HKk.out; omega, rfl, hfr7, .inl ⟨rfl, HLt.out.1, HLt.out.2, la, V6, fun _ => 0, hs7, hb7⟩⟩
                  · skip
                    have hmod : (atn : Int) % 7 = 3 := by have := HQ7.out; omega
                    have hxy : bits .xor .u8 (F 4) by' = y := by
                      rw [HYy.out, HFf.out]
                      unfold segF
                      rw [if_neg (by decide), HHa.out]
                    have HBent : Hid (∀ k, 0 ≤ bent F 4 y k ∧ bent F 4 y k ≤ 255) := Lib.hid (fun k => by
                      unfold bent
                      split
                      · exact HYb.out
                      · rw [HFf.out]
                        exact segF_byte HI.out.byte _ _ (by omega) k)
                    go_wp2_with fail
                    have HK19 : Hid (Keep (Own.One wr.heap.size) w17 (w17.setCell ⟨wr.heap.size, 4, none⟩ (.int .u8 y))) := Lib.hid ((Keep.refl (Own.One wr.heap.size) w17).set1 4 _)
                    have HS19 := Lib.hid (HS17.out.far HBx.out HBs2.out HK19.out)
                    have HBa19 := Lib.hid (HBa17.out.keep HK19.out (fun e => by have e' : wo.heap.size = wr.heap.size := e; have := HWo.out; omega))
                    have HFr19 := Lib.hid (HFr17.out.far (fun a ha => by cases ha; have := HWo.out; exact Nat.ne_of_lt (Nat.lt_trans hbq this)) HK19.out)
                    have hcall := feed_any (HS19.out).rcv (bent F 4 y) (HBent.out) (by omega) (decide (p + i + 1 = segs ys)) (by show F 0 = _; rw [HFf.out]; exact HF0.out) (by rw [padsB_length]; omega)
                    refine hcall.mono ?_
                    rintro e w6 (⟨hc9, rfl, V6, hp⟩ | ⟨hc9, rfl, V6, hp⟩)
                    · have hl6 := (HS19.out).laid (HBa19.out) HBase.out hp.out.1 hp.out.2
                      have HF6 := Lib.hid ((HFr19.out).rstep (HS19.out).rcv hp.out.2)
                      have him1 : i + 1 = m := by
                        have := HMm.out
                        have := HNn.out
                        rw [decide_eq_true_eq] at hc9
                        omega
                      have HX6 := (show padsB ys a 3 y (p + i) ++ seven (bent F 4 y) = padsB ys a 3 y (p + (i + 1)) by rw [HFf.out, ← Nat.add_assoc, HHa.out]; exact (padsB_hit (by omega) HHit.out i).symm)
                      rw [HX6, him1] at hl6
                      have HS6 : Hid (Sess w w6 gs gr w1.heap.size (sndAt A1 c1 ys p m false) ⟨127, if p + m = segs ys then 1 else 0, 0, ansF m 127, V6, padsB ys a 3 y (p + m), 0⟩) := Lib.hid (by
                        have h := hl6.1
                        rw [show p + i + 1 = p + m by omega] at h
                        simp only [decide_eq_true_eq] at h
                        exact h)
                      have HB6 := Lib.hid hl6.2
                      have HM1 := Lib.hid him1
                      clear hcall hp hl6 hc9 HX6 him1
                      rw [HM1.out, aggF_ans]
                      have z0 := (HB6.out).cell 0
                      have z1 := (HB6.out).cell 1
                      have z2 := (HB6.out).cell 2
                      have z3 := (HB6.out).cell 3
                      have z4 := (HB6.out).cell 4
                      have z5 := (HB6.out).cell 5
                      have z6 := (HB6.out).cell 6
                      have z7 := (HB6.out).cell 7
                      have zf0 := (HB6.out).frozen 0
                      have zf1 := (HB6.out).frozen 1
                      have zf2 := (HB6.out).frozen 2
                      have zf3 := (HB6.out).frozen 3
                      have zf4 := (HB6.out).frozen 4
                      have zf5 := (HB6.out).frozen 5
                      have zf6 := (HB6.out).frozen 6
                      have zf7 := (HB6.out).frozen 7
                      simp only [frameC, List.getElem?_toArray, List.getElem?_cons_zero, List.getElem?_cons_succ] at z0 z1 z2 z3 z4 z5 z6 z7
                      go_wp2_with fail
                      have HK7 : Hid (Keep (Own.One wo.heap.size) w6 _) := Lib.hid (keep8 (Keep.refl (Own.One wo.heap.size) w6) (.inl rfl) (.int .u8 162) (.int .u8 m) (.int .u8 127) (.int .u8 0) (.int .u8 0) (.int .u8 0) (.int .u8 0) (.int .u8 0))
                      have hfr7 := HF6.out.far (fun a ha => by cases ha; exact Nat.ne_of_lt hbq) HK7.out
                      have hs7 := HS6.out.far HB6.out HBase.out HK7.out
                      have hb7 := blk8 HB6.out (.int .u8 162) (.int .u8 m) (.int .u8 127) (.int .u8 0) (.int .u8 0) (.int .u8 0) (.int .u8 0) (.int .u8 0)
                      go_roundg (m - (i + 1))
                      case measure => rw [HQi.out]; omega
                      case rel => exact ⟨i + 1, kk + 1, true, hilt, rfl, by go_num, by go_num, by have := HKk.out; omega, rfl, hfr7, .inr ⟨rfl, HM1.out, V6, hs7, hb7⟩⟩
                    · have hl6 := (HS19.out).laid (HBa19.out) HBase.out hp.out.1 hp.out.2
                      have HF6 := Lib.hid ((HFr19.out).rstep (HS19.out).rcv hp.out.2)
                      have hlt6 : p + (i + 1) < segs ys ∧ i + 1 < 127 := by
                        have := HNn.out
                        rw [decide_eq_true_eq] at hc9
                        omega
                      have HLt := Lib.hid hlt6
                      have HX6 := (show padsB ys a 3 y (p + i) ++ seven (bent F 4 y) = padsB ys a 3 y (p + (i + 1)) by rw [HFf.out, ← Nat.add_assoc, HHa.out]; exact (padsB_hit (by omega) HHit.out i).symm)
                      rw [HX6] at hl6
                      have HS6 := Lib.hid hl6.1
                      have HB6 := Lib.hid hl6.2
                      clear hcall hp hl6 hc9 HX6 hlt6
                      rw [aggF_0]
                      have z0 := (HB6.out).cell 0
                      have z1 := (HB6.out).cell 1
                      have z2 := (HB6.out).cell 2
                      have z3 := (HB6.out).cell 3
                      have z4 := (HB6.out).cell 4
                      have z5 := (HB6.out).cell 5
                      have z6 := (HB6.out).cell 6
                      have z7 := (HB6.out).cell 7
                      have zf0 := (HB6.out).frozen 0
                      have zf1 := (HB6.out).frozen 1
                      have zf2 := (HB6.out).frozen 2
                      have zf3 := (HB6.out).frozen 3
                      have zf4 := (HB6.out).frozen 4
                      have zf5 := (HB6.out).frozen 5
                      have zf6 := (HB6.out).frozen 6
                      have zf7 := (HB6.out).frozen 7
                      simp only [frameC, List.getElem?_toArray, List.getElem?_cons_zero, List.getElem?_cons_succ] at z0 z1 z2 z3 z4 z5 z6 z7
                      go_wp2_with fail
                      have HK7 : Hid (Keep (Own.One wo.heap.size) w6 _) := Lib.hid (keep8 (Keep.refl (Own.One wo.heap.size) w6) (.inl rfl) (.int .u8 0) (.int .u8 0) (.int .u8 0) (.int .u8 0) (.int .u8 0) (.int .u8 0) (.int .u8 0) (.int .u8 0))
                      have hfr7 := HF6.out.far (fun a ha => by cases ha; exact Nat.ne_of_lt hbq) HK7.out
                      have hs7 := HS6.out.far HB6.out HBase.out HK7.out
                      have hb7 := blk8 HB6.out (.int .u8 0) (.int .u8 0) (.int .u8 0) (.int .u8 0) (.int .u8 0) (.int .u8 0) (.int .u8 0) (.int .u8 0)
                      go_roundg (m - (i + 1))
                      case measure => rw [HQi.out]; omega
                      case rel => exact ⟨i + 1, kk + 1, false, hilt, rfl, by go_num, by go_num, by have := HKk.out; omega, rfl, hfr7, .inl ⟨rfl, HLt.out.1, HLt.out.2, la, V6, fun _ => 0, hs7, hb7⟩⟩
                  · skip
                    have hmod : (atn : Int) % 7 = 4 := by have := HQ7.out; omega
                    have hxy : bits .xor .u8 (F 5) by' = y := by
                      rw [HYy.out, HFf.out]
                      unfold segF
                      rw [if_neg (by decide), HHa.out]
                    have HBent : Hid (∀ k, 0 ≤ bent F 5 y k ∧ bent F 5 y k ≤ 255) := Lib.hid (fun k => by
                      unfold bent
                      split
                      · exact HYb.out
                      · rw [HFf.out]
                        exact segF_byte HI.out.byte _ _ (by omega) k)
                    go_wp2_with fail
                    have HK19 : Hid (Keep (Own.One wr.heap.size) w17 (w17.setCell ⟨wr.heap.size, 5, none⟩ (.int .u8 y))) := Lib.hid ((Keep.refl (Own.One wr.heap.size) w17).set1 5 _)
                    have HS19 := Lib.hid (HS17.out.far HBx.out HBs2.out HK19.out)
                    have HBa19 := Lib.hid (HBa17.out.keep HK19.out (fun e => by have e' : wo.heap.size = wr.heap.size := e; have := HWo.out; omega))
                    have HFr19 := Lib.hid (HFr17.out.far (fun a ha => by cases ha; have := HWo.out; exact Nat.ne_of_lt (Nat.lt_trans hbq this)) HK19.out)
                    have hcall := feed_any (HS19.out).rcv (bent F 5 y) (HBent.out) (by omega) (decide (p + i + 1 = segs ys)) (by show F 0 = _; rw [HFf.out]; exact HF0.out) (by rw [padsB_length]; omega)
                    refine hcall.mono ?_
                    rintro e w6 (⟨hc9, rfl, V6, hp⟩ | ⟨hc9, rfl, V6, hp⟩)
                    · have hl6 := (HS19.out).laid (HBa19.out) HBase.out hp.out.1 hp.out.2
                      have HF6 := Lib.hid ((HFr19.out).rstep (HS19.out).rcv hp.out.2)
                      have him1 : i + 1 = m := by
                        have := HMm.out
                        have := HNn.out
                        rw [decide_eq_true_eq] at hc9
                        omega
                      have HX6 := (show padsB ys a 4 y (p + i) ++ seven (bent F 5 y) = padsB ys a 4 y (p + (i + 1)) by rw [HFf.out, ← Nat.add_assoc, HHa.out]; exact (padsB_hit (by omega) HHit.out i).symm)
                      rw [HX6, him1] at hl6
                      have HS6 : Hid (Sess w w6 gs gr w1.heap.size (sndAt A1 c1 ys p m false) ⟨127, if p + m = segs ys then 1 else 0, 0, ansF m 127, V6, padsB ys a 4 y (p + m), 0⟩) := Lib.hid (by
                        have h := hl6.1
                        rw [show p + i + 1 = p + m by omega] at h
                        simp only [decide_eq_true_eq] at h
                        exact h)
                      have HB6 := Lib.hid hl6.2
                      have HM1 := Lib.hid him1
                      clear hcall hp hl6 hc9 HX6 him1
                      rw [HM1.out, aggF_ans]
                      have z0 := (HB6.out).cell 0
                      have z1 := (HB6.out).cell 1
                      have z2 := (HB6.out).cell 2
                      have z3 := (HB6.out).cell 3
                      have z4 := (HB6.out).cell 4
                      have z5 := (HB6.out).cell 5
                      have z6 := (HB6.out).cell 6
                      have z7 := (HB6.out).cell 7
                      have zf0 := (HB6.out).frozen 0
                      have zf1 := (HB6.out).frozen 1
                      have zf2 := (HB6.out).frozen 2
                      have zf3 := (HB6.out).frozen 3
                      have zf4 := (HB6.out).frozen 4
                      have zf5 := (HB6.out).frozen 5
                      have zf6 := (HB6.out).frozen 6
                      have zf7 := (HB6.out).frozen 7
                      simp only [frameC, List.getElem?_toArray, List.getElem?_cons_zero, List.getElem?_cons_succ] at z0 z1 z2 z3 z4 z5 z6 z7
                      go_wp2_with fail
                      have HK7 : Hid (Keep (Own.One wo.heap.size) w6 _) := Lib.hid (keep8 (Keep.refl (Own.One wo.heap.size) w6) (.inl rfl) (.int .u8 162) (.int .u8 m) (.int .u8 127) (.int .u8 0) (.int .u8 0) (.int .u8 0) (.int .u8 0) (.int .u8 0))
                      have hfr7 := HF6.out.far (fun a ha => by cases ha; exact Nat.ne_of_lt hbq) HK7.out
                      have hs7 := HS6.out.far HB6.out HBase.out HK7.out
                      have hb7 := blk8 HB6.out (.int .u8 162) (.int .u8 m) (.int .u8 127) (.int .u8 0) (.int .u8 0) (.int .u8 0) (.int .u8 0) (.int .u8 0)
                      go_roundg (m - (i + 1))
                      case measure => rw [HQi.out]; omega
                      case rel => exact ⟨i + 1, kk + 1, true, hilt, rfl, by go_num, by go_num, by have := HKk.out; omega, rfl, hfr7, .inr ⟨rfl, HM1.out, V6, hs7, hb7⟩⟩
                    · have hl6 := (HS19.out).laid (HBa19.out) HBase.out hp.out.1 hp.out.2
                      have HF6 := Lib.hid ((HFr19.out).rstep (HS19.out).rcv hp.out.2)
                      have hlt6 : p + (i + 1) < segs ys ∧ i + 1 < 127 := by
                        have := HNn.out
                        rw [decide_eq_true_eq] at hc9
                        omega
                      have HLt := Lib.hid hlt6
                      have HX6 := (show padsB ys a 4 y (p + i) ++ seven (bent F 5 y) = padsB ys a 4 y (p + (i + 1)) by rw [HFf.out, ← Nat.add_assoc, HHa.out]; exact (padsB_hit (by omega) HHit.out i).symm)
                      rw [HX6] at hl6
                      have HS6 := Lib.hid hl6.1
                      have HB6 := Lib.hid hl6.2
                      clear hcall hp hl6 hc9 HX6 hlt6
                      rw [aggF_0]
                      have z0 := (HB6.out).cell 0
                      have z1 := (HB6.out).cell 1
                      have z2 := (HB6.out).cell 2
                      have z3 := (HB6.out).cell 3
                      have z4 := (HB6.out).cell 4
                      have z5 := (HB6.out).cell 5
                      have z6 := (HB6.out).cell 6
                      have z7 := (HB6.out).cell 7
                      have zf0 := (HB6.out).frozen 0
                      have zf1 := (HB6.out).frozen 1
                      have zf2 := (HB6.out).frozen 2
                      have zf3 := (HB6.out).frozen 3
                      have zf4 := (HB6.out).frozen 4
                      have zf5 := (HB6.out).frozen 5
                      have zf6 := (HB6.out).frozen 6
                      have zf7 := (HB6.out).frozen 7
                      simp only [frameC, List.getElem?_toArray, List.getElem?_cons_zero, List.getElem?_cons_succ] at z0 z1 z2 z3 z4 z5 z6 z7
                      go_wp2_with fail
                      have HK7 : Hid (Keep (Own.One wo.heap.size) w6 _) := Lib.hid (keep8 (Keep.refl (Own.One wo.heap.size) w6) (.inl rfl) (.int .u8 0) (.int .u8 0) (.int .u8 0) (.int .u8 0) (.int .u8 0) (.int .u8 0) (.int .u8 0) (.int .u8 0))
                      have hfr7 := HF6.out.far (fun a ha => by cases ha; exact Nat.ne_of_lt hbq) HK7.out
                      have hs7 := HS6.out.far HB6.out HBase.out HK7.out
                      have hb7 := blk8 HB6.out (.int .u8 0) (.int .u8 0) (.int .u8 0) (.int .u8 0) (.int .u8 0) (.int .u8 0) (.int .u8 0) (.int .u8 0)
                      go_roundg (m - (i + 1))
                      case measure => rw [HQi.out]; omega
                      case rel => exact ⟨i + 1, kk + 1, false, hilt, rfl, by go_num, by go_num, by have := HKk.out; omega, rfl, hfr7, .inl ⟨rfl, HLt.out.1, HLt.out.2, la, V6, fun _ => 0, hs7, hb7⟩⟩
                  · skip
                    have hmod : (atn : Int) % 7 = 5 := by have := HQ7.out; omega
                    have hxy : bits .xor .u8 (F 6) by' = y := by
                      rw [HYy.out, HFf.out]
                      unfold segF
                      rw [if_neg (by decide), HHa.out]
                    have HBent : Hid (∀ k, 0 ≤ bent F 6 y k ∧ bent F 6 y k ≤ 255) := Lib.hid (fun k => by
                      unfold bent
                      split
                      · exact HYb.out
                      · rw [HFf.out]
                        exact segF_byte HI.out.byte _ _ (by omega) k)
                    go_wp2_with fail
                    have HK19 : Hid (Keep (Own.One wr.heap.size) w17 (w17.setCell ⟨wr.heap.size, 6, none⟩ (.int .u8 y))) := Lib.hid ((Keep.refl (Own.One wr.heap.size) w17).set1 6 _)
                    have HS19 := Lib.hid (HS17.out.far HBx.out HBs2.out HK19.out)
                    have HBa19 := Lib.hid (HBa17.out.keep HK19.out (fun e => by have e' : wo.heap.size = wr.heap.size := e; have := HWo.out; omega))
                    have HFr19 := Lib.hid (HFr17.out.far (fun a ha => by cases ha; have := HWo.out; exact Nat.ne_of_lt (Nat.lt_trans hbq this)) HK19.out)
                    have hcall := feed_any (HS19.out).rcv (bent F 6 y) (HBent.out) (by omega) (decide (p + i + 1 = segs ys)) (by show F 0 = _; rw [HFf.out]; exact HF0.out) (by rw [padsB_length]; omega)
                    refine hcall.mono ?_
                    rintro e w6 (⟨hc9, rfl, V6, hp⟩ | ⟨hc9, rfl, V6, hp⟩)
                    · have hl6 := (HS19.out).laid (HBa19.out) HBase.out hp.out.1 hp.out.2
                      have HF6 := Lib.hid ((HFr19.out).rstep (HS19.out).rcv hp.out.2)
                      have him1 : i + 1 = m := by
                        have := HMm.out
                        have := HNn.out
                        rw [decide_eq_true_eq] at hc9
                        omega
                      have HX6 := (show padsB ys a 5 y (p + i) ++ seven (bent F 6 y) = padsB ys a 5 y (p + (i + 1)) by rw [HFf.out, ← Nat.add_assoc, HHa.out]; exact (padsB_hit (by omega) HHit.out i).symm)
                      rw [HX6, him1] at hl6
                      have HS6 : Hid (Sess w w6 gs gr w1.heap.size (sndAt A1 c1 ys p m false) ⟨127, if p + m = segs ys then 1 else 0, 0, ansF m 127, V6, padsB ys a 5 y (p + m), 0⟩) := Lib.hid (by
                        have h := hl6.1
                        rw [show p + i + 1 = p + m by omega] at h
                        simp only [decide_eq_true_eq] at h
                        exact h)
                      have HB6 := Lib.hid hl6.2
                      have HM1 := Lib.hid him1
                      clear hcall hp hl6 hc9 HX6 him1
                      rw [HM1.out, aggF_ans]
                      have z0 := (HB6.out).cell 0
                      have z1 := (HB6.out).cell 1
                      have z2 := (HB6.out).cell 2
                      have z3 := (HB6.out).cell 3
                      have z4 := (HB6.out).cell 4
                      have z5 := (HB6.out).cell 5
                      have z6 := (HB6.out).cell 6
                      have z7 := (HB6.out).cell 7
                      have zf0 := (HB6.out).frozen 0
                      have zf1 := (HB6.out).frozen 1
                      have zf2 := (HB6.out).frozen 2
                      have zf3 := (HB6.out).frozen 3
                      have zf4 := (HB6.out).frozen 4
                      have zf5 := (HB6.out).frozen 5
                      have zf6 := (HB6.out).frozen 6
                      have zf7 := (HB6.out).frozen 7
                      simp only [frameC, List.getElem?_toArray, List.getElem?_cons_zero, List.getElem?_cons_succ] at z0 z1 z2 z3 z4 z5 z6 z7
                      go_wp2_with fail
                      have HK7 : Hid (Keep (Own.One wo.heap.size) w6 _) := Lib.hid (keep8 (Keep.refl (Own.One wo.heap.size) w6) (.inl rfl) (.int .u8 162) (.int .u8 m) (.int .u8 127) (.int .u8 0) (.int .u8 0) (.int .u8 0) (.int .u8 0) (.int .u8 0))
                      have hfr7 := HF6.out.far (fun a ha => by cases ha; exact Nat.ne_of_lt hbq) HK7.out
                      have hs7 := HS6.out.far HB6.out HBase.out HK7.out
                      have hb7 := blk8 HB6.out (.int .u8 162) (.int .u8 m) (.int .u8 127) (.int .u8 0) (.int .u8 0) (.int .u8 0) (.int .u8 0) (.int .u8 0)
                      go_roundg (m - (i + 1))
                      case measure => rw [HQi.out]; omega
                      case rel => exact ⟨i + 1, kk + 1, true, hilt, rfl, by go_num, by go_num, by have := HKk.out; omega, rfl, hfr7, .inr ⟨rfl, HM1.out, V6, hs7, hb7⟩⟩
                    · have hl6 := (HS19.out).laid (HBa19.out) HBase.out hp.out.1 hp.out.2
                      have HF6 := Lib.hid ((HFr19.out).rstep (HS19.out).rcv hp.out.2)
                      have hlt6 : p + (i + 1) < segs ys ∧ i + 1 < 127 := by
                        have := HNn.out
                        rw [decide_eq_true_eq] at hc9
                        omega
                      have HLt := Lib.hid hlt6
                      have HX6 := (show padsB ys a 5 y (p + i) ++ seven (bent F 6 y) = padsB ys a 5 y (p + (i + 1)) by rw [HFf.out, ← Nat.add_assoc, HHa.out]; exact (padsB_hit (by omega) HHit.out i).symm)
                      rw [HX6] at hl6
                      have HS6 := Lib.hid hl6.1
                      have HB6 := Lib.hid hl6.2
                      clear hcall hp hl6 hc9 HX6 hlt6
                      rw [aggF_0]
                      have z0 := (HB6.out).cell 0
                      have z1 := (HB6.out).cell 1
                      have z2 := (HB6.out).cell 2
                      have z3 := (HB6.out).cell 3
                      have z4 := (HB6.out).cell 4
                      have z5 := (HB6.out).cell 5
                      have z6 := (HB6.out).cell 6
                      have z7 := (HB6.out).cell 7
                      have zf0 := (HB6.out).frozen 0
                      have zf1 := (HB6.out).frozen 1
                      have zf2 := (HB6.out).frozen 2
                      have zf3 := (HB6.out).frozen 3
                      have zf4 := (HB6.out).frozen 4
                      have zf5 := (HB6.out).frozen 5
                      have zf6 := (HB6.out).frozen 6
                      have zf7 := (HB6.out).frozen 7
                      simp only [frameC, List.getElem?_toArray, List.getElem?_cons_zero, List.getElem?_cons_succ] at z0 z1 z2 z3 z4 z5 z6 z7
                      go_wp2_with fail
                      have HK7 : Hid (Keep (Own.One wo.heap.size) w6 _) := Lib.hid (keep8 (Keep.refl (Own.One wo.heap.size) w6) (.inl rfl) (.int .u8 0) (.int .u8 0) (.int .u8 0) (.int .u8 0) (.int .u8 0) (.int .u8 0) (.int .u8 0) (.int .u8 0))
                      have hfr7 := HF6.out.far (fun a ha => by cases ha; exact Nat.ne_of_lt hbq) HK7.out
                      have hs7 := HS6.out.far HB6.out HBase.out HK7.out
                      have hb7 := blk8 HB6.out (.int .u8 0) (.int .u8 0) (.int .u8 0) (.int .u8 0) (.int .u8 0) (.int .u8 0) (.int .u8 0) (.int .u8 0)
                      go_roundg (m - (i + 1))
                      case measure => rw [HQi.out]; omega
                      case rel => exact ⟨i + 1, kk + 1, false, hilt, rfl, by go_num, by go_num, by have := HKk.out; omega, rfl, hfr7, .inl ⟨rfl, HLt.out.1, HLt.out.2, la, V6, fun _ => 0, hs7, hb7⟩⟩
                  · skip
                    have hmod : (atn : Int) % 7 = 6 := by have := HQ7.out; omega
                    have hxy : bits .xor .u8 (F 7) by' = y := by
                      rw [HYy.out, HFf.out]
                      unfold segF
                      rw [if_neg (by decide), HHa.out]
                    have HBent : Hid (∀ k, 0 ≤ bent F 7 y k ∧ bent F 7 y k ≤ 255) := Lib.hid (fun k => by
                      unfold bent
                      split
                      · exact HYb.out
                      · rw [HFf.out]
                        exact segF_byte HI.out.byte _ _ (by omega) k)
                    go_wp2_with fail
                    have HK19 : Hid (Keep (Own.One wr.heap.size) w17 (w17.setCell ⟨wr.heap.size, 7, none⟩ (.int .u8 y))) := Lib.hid ((Keep.refl (Own.One wr.heap.size) w17).set1 7 _)
                    have HS19 := Lib.hid (HS17.out.far HBx.out HBs2.out HK19.out)
                    have HBa19 := Lib.hid (HBa17.out.keep HK19.out (fun e => by have e' : wo.heap.size = wr.heap.size := e; have := HWo.out; omega))
                    have HFr19 := Lib.hid (HFr17.out.far (fun a ha => by cases ha; have := HWo.out; exact Nat.ne_of_lt (Nat.lt_trans hbq this)) HK19.out)
                    have hcall := feed_any (HS19.out).rcv (bent F 7 y) (HBent.out) (by omega) (decide (p + i + 1 = segs ys)) (by show F 0 = _; rw [HFf.out]; exact HF0.out) (by rw [padsB_length]; omega)
                    refine hcall.mono ?_
                    rintro e w6 (⟨hc9, rfl, V6, hp⟩ | ⟨hc9, rfl, V6, hp⟩)
                    · have hl6 := (HS19.out).laid (HBa19.out) HBase.out hp.out.1 hp.out.2
                      have HF6 := Lib.hid ((HFr19.out).rstep (HS19.out).rcv hp.out.2)
                      have him1 : i + 1 = m := by
                        have := HMm.out
                        have := HNn.out
                        rw [decide_eq_true_eq] at hc9
                        omega
                      have HX6 := (show padsB ys a 6 y (p + i) ++ seven (bent F 7 y) = padsB ys a 6 y (p + (i + 1)) by rw [HFf.out, ← Nat.add_assoc, HHa.out]; exact (padsB_hit (by omega) HHit.out i).symm)
                      rw [HX6, him1] at hl6
                      have HS6 : Hid (Sess w w6 gs gr w1.heap.size (sndAt A1 c1 ys p m false) ⟨127, if p + m = segs ys then 1 else 0, 0, ansF m 127, V6, padsB ys a 6 y (p + m), 0⟩) := Lib.hid (by
                        have h := hl6.1
                        rw [show p + i + 1 = p + m by omega] at h
                        simp only [decide_eq_true_eq] at h
                        exact h)
                      have HB6 := Lib.hid hl6.2
                      have HM1 := Lib.hid him1
                      clear hcall hp hl6 hc9 HX6 him1
                      rw [HM1.out, aggF_ans]
                      have z0 := (HB6.out).cell 0
                      have z1 := (HB6.out).cell 1
                      have z2 := (HB6.out).cell 2
                      have z3 := (HB6.out).cell 3
                      have z4 := (HB6.out).cell 4
                      have z5 := (HB6.out).cell 5
                      have z6 := (HB6.out).cell 6
                      have z7 := (HB6.out).cell 7
                      have zf0 := (HB6.out).frozen 0
                      have zf1 := (HB6.out).frozen 1
                      have zf2 := (HB6.out).frozen 2
                      have zf3 := (HB6.out).frozen 3
                      have zf4 := (HB6.out).frozen 4
                      have zf5 := (HB6.out).frozen 5
                      have zf6 := (HB6.out).frozen 6
                      have zf7 := (HB6.out).frozen 7
                      simp only [frameC, List.getElem?_toArray, List.getElem?_cons_zero, List.getElem?_cons_succ] at z0 z1 z2 z3 z4 z5 z6 z7
                      go_wp2_with fail
                      have HK7 : Hid (Keep (Own.One wo.heap.size) w6 _) := Lib.hid (keep8 (Keep.refl (Own.One wo.heap.size) w6) (.inl rfl) (.int .u8 162) (.int .u8 m) (.int .u8 127) (.int .u8 0) (.int .u8 0) (.int .u8 0) (.int .u8 0) (.int .u8 0))
                      have hfr7 := HF6.out.far (fun a ha => by cases ha; exact Nat.ne_of_lt hbq) HK7.out
                      have hs7 := HS6.out.far HB6.out HBase.out HK7.out
                      have hb7 := blk8 HB6.out (.int .u8 162) (.int .u8 m) (.int .u8 127) (.int .u8 0) (.int .u8 0) (.int .u8 0) (.int .u8 0) (.int .u8 0)
                      go_roundg (m - (i + 1))
                      case measure => rw [HQi.out]; omega
                      case rel => exact ⟨i + 1, kk + 1, true, hilt, rfl, by go_num, by go_num, by have := HKk.out; omega, rfl, hfr7, .inr ⟨rfl, HM1.out, V6, hs7, hb7⟩⟩
                    · have hl6 := (HS19.out).laid (HBa19.out) HBase.out hp.out.1 hp.out.2
                      have HF6 := Lib.hid ((HFr19.out).rstep (HS19.out).rcv hp.out.2)
                      have hlt6 : p + (i + 1) < segs ys ∧ i + 1 < 127 := by
                        have := HNn.out
                        rw [decide_eq_true_eq] at hc9
                        omega
                      have HLt := Lib.hid hlt6
                      have HX6 := (show padsB ys a 6 y (p + i) ++ seven (bent F 7 y) = padsB ys a 6 y (p + (i + 1)) by rw [HFf.out, ← Nat.add_assoc, HHa.out]; exact (padsB_hit (by omega) HHit.out i).symm)
                      rw [HX6] at hl6
                      have HS6 := Lib.hid hl6.1
                      have HB6 := Lib.hid hl6.2
                      clear hcall hp hl6 hc9 HX6 hlt6
                      rw [aggF_0]
                      have z0 := (HB6.out).cell 0
                      have z1 := (HB6.out).cell 1
                      have z2 := (HB6.out).cell 2
                      have z3 := (HB6.out).cell 3
                      have z4 := (HB6.out).cell 4
                      have z5 := (HB6.out).cell 5
                      have z6 := (HB6.out).cell 6
                      have z7 := (HB6.out).cell 7
                      have zf0 := (HB6.out).frozen 0
                      have zf1 := (HB6.out).frozen 1
                      have zf2 := (HB6.out).frozen 2
                      have zf3 := (HB6.out).frozen 3
                      have zf4 := (HB6.out).frozen 4
                      have zf5 := (HB6.out).frozen 5
                      have zf6 := (HB6.out).frozen 6
                      have zf7 := (HB6.out).frozen 7
                      simp only [frameC, List.getElem?_toArray, List.getElem?_cons_zero, List.getElem?_cons_succ] at z0 z1 z2 z3 z4 z5 z6 z7
                      go_wp2_with fail
                      have HK7 : Hid (Keep (Own.One wo.heap.size) w6 _) := Lib.hid (keep8 (Keep.refl (Own.One wo.heap.size) w6) (.inl rfl) (.int .u8 0) (.int .u8 0) (.int .u8 0) (.int .u8 0) (.int .u8 0) (.int .u8 0) (.int .u8 0) (.int .u8 0))
                      have hfr7 := HF6.out.far (fun a ha => by cases ha; exact Nat.ne_of_lt hbq) HK7.out
                      have hs7 := HS6.out.far HB6.out HBase.out HK7.out
                      have hb7 := blk8 HB6.out (.int .u8 0) (.int .u8 0) (.int .u8 0) (.int .u8 0) (.int .u8 0) (.int .u8 0) (.int .u8 0) (.int .u8 0)
                      go_roundg (m - (i + 1))
                      case measure => rw [HQi.out]; omega
                      case rel => exact ⟨i + 1, kk + 1, false, hilt, rfl, by go_num, by go_num, by have := HKk.out; omega, rfl, hfr7, .inl ⟨rfl, HLt.out.1, HLt.out.2, la, V6, fun _ => 0, hs7, hb7⟩⟩
                · have HNo : Hid (¬ (a = p + i ∧ hit ys a)) := Lib.hid (fun h => by
                    have h2 := HPp.out
                    have h3 := HFf.out
                    have h4 := h.2.2
                    rw [show a % 127 = i by omega, h.1] at h4
                    rw [h3] at hf193
                    exact hf193 h4)
                  have HKa := Lib.hid hka
                  clear hka
                  go_wp2_with fail
                  have hcall := feed_any (HS17.out).rcv (F) (by rw [HFf.out]; exact segF_byte HI.out.byte _ _ (by omega)) (by omega) (decide (p + i + 1 = segs ys)) (by rw [HFf.out]; exact HF0.out) (by rw [padsB_length]; omega)
                  refine hcall.mono ?_
                  rintro e w6 (⟨hc9, rfl, V6, hp⟩ | ⟨hc9, rfl, V6, hp⟩)
                  · have hl6 := (HS17.out).laid (HBa17.out) HBase.out hp.out.1 hp.out.2
                    have HF6 := Lib.hid ((HFr17.out).rstep (HS17.out).rcv hp.out.2)
                    have him1 : i + 1 = m := by
                      have := HMm.out
                      have := HNn.out
                      rw [decide_eq_true_eq] at hc9
                      omega
                    have HX6 := (show padsB ys a q y (p + i) ++ seven F = padsB ys a q y (p + (i + 1)) by rw [HFf.out, ← Nat.add_assoc]; exact (padsB_other hq7 HNo.out i).symm)
                    rw [HX6, him1] at hl6
                    have HS6 : Hid (Sess w w6 gs gr w1.heap.size (sndAt A1 c1 ys p m false) ⟨127, if p + m = segs ys then 1 else 0, 0, ansF m 127, V6, padsB ys a q y (p + m), 0⟩) := Lib.hid (by
                      have h := hl6.1
                      rw [show p + i + 1 = p + m by omega] at h
                      simp only [decide_eq_true_eq] at h
                      exact h)
                    have HB6 := Lib.hid hl6.2
                    have HM1 := Lib.hid him1
                    clear hcall hp hl6 hc9 HX6 him1
                    rw [HM1.out, aggF_ans]
                    have z0 := (HB6.out).cell 0
                    have z1 := (HB6.out).cell 1
                    have z2 := (HB6.out).cell 2
                    have z3 := (HB6.out).cell 3
                    have z4 := (HB6.out).cell 4
                    have z5 := (HB6.out).cell 5
                    have z6 := (HB6.out).cell 6
                    have z7 := (HB6.out).cell 7
                    have zf0 := (HB6.out).frozen 0
                    have zf1 := (HB6.out).frozen 1
                    have zf2 := (HB6.out).frozen 2
                    have zf3 := (HB6.out).frozen 3
                    have zf4 := (HB6.out).frozen 4
                    have zf5 := (HB6.out).frozen 5
                    have zf6 := (HB6.out).frozen 6
                    have zf7 := (HB6.out).frozen 7
                    simp only [frameC, List.getElem?_toArray, List.getElem?_cons_zero, List.getElem?_cons_succ] at z0 z1 z2 z3 z4 z5 z6 z7
                    go_wp2_with fail
                    have HK7 : Hid (Keep (Own.One wo.heap.size) w6 _) := Lib.hid (keep8 (Keep.refl (Own.One wo.heap.size) w6) (.inl rfl) (.int .u8 162) (.int .u8 m) (.int .u8 127) (.int .u8 0) (.int .u8 0) (.int .u8 0) (.int .u8 0) (.int .u8 0))
                    have hfr7 := HF6.out.far (fun a ha => by cases ha; exact Nat.ne_of_lt hbq) HK7.out
                    have hs7 := HS6.out.far HB6.out HBase.out HK7.out
                    have hb7 := blk8 HB6.out (.int .u8 162) (.int .u8 m) (.int .u8 127) (.int .u8 0) (.int .u8 0) (.int .u8 0) (.int .u8 0) (.int .u8 0)
                    go_roundg (m - (i + 1))
                    case measure => rw [HQi.out]; omega
                    case rel => exact ⟨i + 1, kk + 1, true, hilt, rfl, by go_num, by go_num, by have := HKk.out; omega, rfl, hfr7, .inr ⟨rfl, HM1.out, V6, hs7, hb7⟩⟩
                  · have hl6 := (HS17.out).laid (HBa17.out) HBase.out hp.out.1 hp.out.2
                    have HF6 := Lib.hid ((HFr17.out).rstep (HS17.out).rcv hp.out.2)
                    have hlt6 : p + (i + 1) < segs ys ∧ i + 1 < 127 := by
                      have := HNn.out
                      rw [decide_eq_true_eq] at hc9
                      omega
                    have HLt := Lib.hid hlt6
                    have HX6 := (show padsB ys a q y (p + i) ++ seven F = padsB ys a q y (p + (i + 1)) by rw [HFf.out, ← Nat.add_assoc]; exact (padsB_other hq7 HNo.out i).symm)
                    rw [HX6] at hl6
                    have HS6 := Lib.hid hl6.1
                    have HB6 := Lib.hid hl6.2
                    clear hcall hp hl6 hc9 HX6 hlt6
                    rw [aggF_0]
                    have z0 := (HB6.out).cell 0
                    have z1 := (HB6.out).cell 1
                    have z2 := (HB6.out).cell 2
                    have z3 := (HB6.out).cell 3
                    have z4 := (HB6.out).cell 4
                    have z5 := (HB6.out).cell 5
                    have z6 := (HB6.out).cell 6
                    have z7 := (HB6.out).cell 7
                    have zf0 := (HB6.out).frozen 0
                    have zf1 := (HB6.out).frozen 1
                    have zf2 := (HB6.out).frozen 2
                    have zf3 := (HB6.out).frozen 3
                    have zf4 := (HB6.out).frozen 4
                    have zf5 := (HB6.out).frozen 5
                    have zf6 := (HB6.out).frozen 6
                    have zf7 := (HB6.out).frozen 7
                    simp only [frameC, List.getElem?_toArray, List.getElem?_cons_zero, List.getElem?_cons_succ] at z0 z1 z2 z3 z4 z5 z6 z7
                    go_wp2_with fail
                    have HK7 : Hid (Keep (Own.One wo.heap.size) w6 _) := Lib.hid (keep8 (Keep.refl (Own.One wo.heap.size) w6) (.inl rfl) (.int .u8 0) (.int .u8 0) (.int .u8 0) (.int .u8 0) (.int .u8 0) (.int .u8 0) (.int .u8 0) (.int .u8 0))
                    have hfr7 := HF6.out.far (fun a ha => by cases ha; exact Nat.ne_of_lt hbq) HK7.out
                    have hs7 := HS6.out.far HB6.out HBase.out HK7.out
                    have hb7 := blk8 HB6.out (.int .u8 0) (.int .u8 0) (.int .u8 0) (.int .u8 0) (.int .u8 0) (.int .u8 0) (.int .u8 0) (.int .u8 0)
                    go_roundg (m - (i + 1))
                    case measure => rw [HQi.out]; omega
                    case rel => exact ⟨i + 1, kk + 1, false, hilt, rfl, by go_num, by go_num, by have := HKk.out; omega, rfl, hfr7, .inl ⟨rfl, HLt.out.1, HLt.out.2, la, V6, fun _ => 0, hs7, hb7⟩⟩
              · have hka2 : ¬ (kk : Int) = (a : Int) := by omega
                have HNo : Hid (¬ (a = p + i ∧ hit ys a)) := Lib.hid (fun h => by have := HKk.out; omega)
                clear hka
                go_wp2_with fail
                have hcall := feed_any (HS17.out).rcv (F) (by rw [HFf.out]; exact segF_byte HI.out.byte _ _ (by omega)) (by omega) (decide (p + i + 1 = segs ys)) (by rw [HFf.out]; exact HF0.out) (by rw [padsB_length]; omega)
                refine hcall.mono ?_
                rintro e w6 (⟨hc9, rfl, V6, hp⟩ | ⟨hc9, rfl, V6, hp⟩)
                · have hl6 := (HS17.out).laid (HBa17.out) HBase.out hp.out.1 hp.out.2
                  have HF6 := Lib.hid ((HFr17.out).rstep (HS17.out).rcv hp.out.2)
                  have him1 : i + 1 = m := by
                    have := HMm.out
                    have := HNn.out
                    rw [decide_eq_true_eq] at hc9
                    omega
                  have HX6 := (show padsB ys a q y (p + i) ++ seven F = padsB ys a q y (p + (i + 1)) by rw [HFf.out, ← Nat.add_assoc]; exact (padsB_other hq7 HNo.out i).symm)
                  rw [HX6, him1] at hl6
                  have HS6 : Hid (Sess w w6 gs gr w1.heap.size (sndAt A1 c1 ys p m false) ⟨127, if p + m = segs ys then 1 else 0, 0, ansF m 127, V6, padsB ys a q y (p + m), 0⟩) := Lib.hid (by
                    have h := hl6.1
                    rw [show p + i + 1 = p + m by omega] at h
                    simp only [decide_eq_true_eq] at h
                    exact h)
                  have HB6 := Lib.hid hl6.2
                  have HM1 := Lib.hid him1
                  clear hcall hp hl6 hc9 HX6 him1
                  rw [HM1.out, aggF_ans]
                  have z0 := (HB6.out).cell 0
                  have z1 := (HB6.out).cell 1
                  have z2 := (HB6.out).cell 2
                  have z3 := (HB6.out).cell 3
                  have z4 := (HB6.out).cell 4
                  have z5 := (HB6.out).cell 5
                  have z6 := (HB6.out).cell 6
                  have z7 := (HB6.out).cell 7
                  have zf0 := (HB6.out).frozen 0
                  have zf1 := (HB6.out).frozen 1
                  have zf2 := (HB6.out).frozen 2
                  have zf3 := (HB6.out).frozen 3
                  have zf4 := (HB6.out).frozen 4
                  have zf5 := (HB6.out).frozen 5
                  have zf6 := (HB6.out).frozen 6
                  have zf7 := (HB6.out).frozen 7
                  simp only [frameC, List.getElem?_toArray, List.getElem?_cons_zero, List.getElem?_cons_succ] at z0 z1 z2 z3 z4 z5 z6 z7
                  go_wp2_with fail
                  have HK7 : Hid (Keep (Own.One wo.heap.size) w6 _) := Lib.hid (keep8 (Keep.refl (Own.One wo.heap.size) w6) (.inl rfl) (.int .u8 162) (.int .u8 m) (.int .u8 127) (.int .u8 0) (.int .u8 0) (.int .u8 0) (.int .u8 0) (.int .u8 0))
                  have hfr7 := HF6.out.far (fun a ha => by cases ha; exact Nat.ne_of_lt hbq) HK7.out
                  have hs7 := HS6.out.far HB6.out HBase.out HK7.out
                  have hb7 := blk8 HB6.out (.int .u8 162) (.int .u8 m) (.int .u8 127) (.int .u8 0) (.int .u8 0) (.int .u8 0) (.int .u8 0) (.int .u8 0)
                  go_roundg (m - (i + 1))
                  case measure => rw [HQi.out]; omega
                  case rel => exact ⟨i + 1, kk + 1, true, hilt, rfl, by go_num, by go_num, by have := HKk.out; omega, rfl, hfr7, .inr ⟨rfl, HM1.out, V6, hs7, hb7⟩⟩
                · have hl6 := (HS17.out).laid (HBa17.out) HBase.out hp.out.1 hp.out.2
                  have HF6 := Lib.hid ((HFr17.out).rstep (HS17.out).rcv hp.out.2)
                  have hlt6 : p + (i + 1) < segs ys ∧ i + 1 < 127 := by
                    have := HNn.out
                    rw [decide_eq_true_eq] at hc9
                    omega
                  have HLt := Lib.hid hlt6
                  have HX6 := (show padsB ys a q y (p + i) ++ seven F = padsB ys a q y (p + (i + 1)) by rw [HFf.out, ← Nat.add_assoc]; exact (padsB_other hq7 HNo.out i).symm)
                  rw [HX6] at hl6
                  have HS6 := Lib.hid hl6.1
                  have HB6 := Lib.hid hl6.2
                  clear hcall hp hl6 hc9 HX6 hlt6
                  rw [aggF_0]
                  have z0 := (HB6.out).cell 0
                  have z1 := (HB6.out).cell 1
                  have z2 := (HB6.out).cell 2
                  have z3 := (HB6.out).cell 3
                  have z4 := (HB6.out).cell 4
                  have z5 := (HB6.out).cell 5
                  have z6 := (HB6.out).cell 6
                  have z7 := (HB6.out).cell 7
                  have zf0 := (HB6.out).frozen 0
                  have zf1 := (HB6.out).frozen 1
                  have zf2 := (HB6.out).frozen 2
                  have zf3 := (HB6.out).frozen 3
                  have zf4 := (HB6.out).frozen 4
                  have zf5 := (HB6.out).frozen 5
                  have zf6 := (HB6.out).frozen 6
                  have zf7 := (HB6.out).frozen 7
                  simp only [frameC, List.getElem?_toArray, List.getElem?_cons_zero, List.getElem?_cons_succ] at z0 z1 z2 z3 z4 z5 z6 z7
                  go_wp2_with fail
                  have HK7 : Hid (Keep (Own.One wo.heap.size) w6 _) := Lib.hid (keep8 (Keep.refl (Own.One wo.heap.size) w6) (.inl rfl) (.int .u8 0) (.int .u8 0) (.int .u8 0) (.int .u8 0) (.int .u8 0) (.int .u8 0) (.int .u8 0) (.int .u8 0))
                  have hfr7 := HF6.out.far (fun a ha => by cases ha; exact Nat.ne_of_lt hbq) HK7.out
                  have hs7 := HS6.out.far HB6.out HBase.out HK7.out
                  have hb7 := blk8 HB6.out (.int .u8 0) (.int .u8 0) (.int .u8 0) (.int .u8 0) (.int .u8 0) (.int .u8 0) (.int .u8 0) (.int .u8 0)
                  go_roundg (m - (i + 1))
                  case measure => rw [HQi.out]; omega
                  case rel => exact ⟨i + 1, kk + 1, false, hilt, rfl, by go_num, by go_num, by have := HKk.out; omega, rfl, hfr7, .inl ⟨rfl, HLt.out.1, HLt.out.2, la, V6, fun _ => 0, hs7, hb7⟩⟩
            · omega
          · have him2 : m = i := by omega
            subst him2
            have hnl : ¬ (m : Int) < (m : Int) := by omega
            rcases hwi with ⟨rfl, hpiN, hi127, _⟩ | ⟨rfl, _, V, hs, hba⟩
            · exfalso
              have := HMm.out
              have := HNn.out
              omega
            · have HS := Lib.hid hs
              have HBa := Lib.hid hba
              have HC127 : Hid (m ≤ 127) := Lib.hid (by omega)
              clear hs hba
              have z0 := (HBa.out).cell 0
              have z1 := (HBa.out).cell 1
              have z2 := (HBa.out).cell 2
              have z3 := (HBa.out).cell 3
              have z4 := (HBa.out).cell 4
              have z5 := (HBa.out).cell 5
              have z6 := (HBa.out).cell 6
              have z7 := (HBa.out).cell 7
              have zf0 := (HBa.out).frozen 0
              have zf1 := (HBa.out).frozen 1
              have zf2 := (HBa.out).frozen 2
              have zf3 := (HBa.out).frozen 3
              have zf4 := (HBa.out).frozen 4
              have zf5 := (HBa.out).frozen 5
              have zf6 := (HBa.out).frozen 6
              have zf7 := (HBa.out).frozen 7
              simp only [List.getElem?_toArray, List.getElem?_cons_zero, List.getElem?_cons_succ] at z0 z1 z2 z3 z4 z5 z6 z7
              have hnd2 : (⟨127, if p + m = segs ys then 1 else 0, 0, ansF m 127, V, padsB ys a q y (p + m), 0⟩ : Rcv).doing ≠ 2 := by
                show (if p + m = segs ys then 1 else 0) ≠ 2
                split <;> decide
              have HNd := Lib.hid hnd2
              clear hnd2
              go_wp2_with fail
              refine (RDone_not HS.out.rcv HNd.out).mono ?_
              rintro e w' ⟨rfl, rfl⟩
              by_cases hpm : p + m < segs ys
              · have HCN := Lib.hid hpm
                have HS7 : Hid (Sess w wr gs gr w1.heap.size (sndAt A1 c1 ys p m false) ⟨127, 0, 0, ansF m 127, V, padsB ys a q y (p + m), 0⟩) := Lib.hid (by
                  have h := HS.out
                  rw [if_neg (by omega)] at h
                  exact h)
                have HNx : Hid (p + m = 127 * (bl + 1)) := Lib.hid (by have := HMm.out; have := HNn.out; have := HPp.out; omega)
                clear hpm
                go_wp2_with fail
                refine (Feed_more HS7.out.snd rfl rfl rfl m 127 0 0 0 0 0 (Nat.le_refl _) HC127.out (by decide) (by decide) HCN.out _ rfl).mono ?_
                rintro e w8 ⟨A8, c8, rfl, hp8⟩
                have HS8 := Lib.hid (HS7.out.sstep hp8.out.1 rfl hp8.out.2.2)
                have HF8 := Lib.hid (own_mono hp8.out.2.1 HS7.out.keep.size)
                clear hp8 z0 z1 z2 z3 z4 z5 z6 z7 zf0 zf1 zf2 zf3 zf4 zf5 zf6 zf7
                obtain ⟨m8, hm8⟩ : ∃ m8, m8 = min 127 (segs ys - (p + m)) := ⟨_, rfl⟩
                have HM8 := Lib.hid hm8
                have HS8b : Hid (Sess w w8 gs gr w1.heap.size (sndAt A1 c1 ys (p + m) m8 false) ⟨127, 0, 0, ansF m 127, V, padsB ys a q y (p + m), 0⟩) := Lib.hid (by rw [hm8]; exact HS8.out)
                have HF8b : Hid (FrAt w8 w.heap.size A8 m8 c8 (framesF ys (p + m) m8)) := Lib.hid (by rw [hm8]; exact HF8.out)
                rw [show (sndAt A1 c1 ys p m false).at' = p from rfl, show (sndAt A1 c1 ys p m false).bs = ys from rfl, ← hm8]
                clear HS8 HF8 hm8
                go_wp2_with fail
                go_roundg (2000 - (bl + 1))
                case measure => rw [HQ.out]; omega
                case rel => exact ⟨bl + 1, A8, c8, m8, p + m, rfl, by have := HPp.out; have := HNn.out; omega, by go_num, by go_num, rfl, .inl ⟨HNx.out, ⟨ansF m 127, V, by rw [← HNx.out]; exact HS8b.out, by rw [← HNx.out]; exact HF8b.out⟩, by have := HNx.out; have := HCN.out; omega, by rw [← HNx.out]; exact HM8.out⟩⟩
              · have HE : Hid (p + m = segs ys) := Lib.hid (by have := HNn.out; omega)
                have HS7 : Hid (Sess w wr gs gr w1.heap.size (sndAt A1 c1 ys p m false) ⟨127, 1, 0, ansF m 127, V, padsB ys a q y (segs ys), 0⟩) := Lib.hid (by
                  have h := HS.out
                  rw [if_pos HE.out, HE.out] at h
                  exact h)
                clear hpm
                go_wp2_with fail
                refine (Feed_end HS7.out.snd rfl rfl rfl m 127 0 0 0 0 0 (Nat.le_refl _) HC127.out (by decide) (by decide) HE.out).mono ?_
                rintro e w8 ⟨A8, c8, rfl, hp8⟩
                have HS8 : Hid (Sess w w8 gs gr w1.heap.size (sndAt A1 c1 ys (segs ys) m true) ⟨127, 1, 0, ansF m 127, V, padsB ys a q y (segs ys), 0⟩) := Lib.hid (by
                  have h := HS7.out.sstep hp8.out.1 rfl hp8.out.2.2
                  unfold sndAt at h
                  simp only [HE.out] at h
                  exact h)
                have HF8 : Hid (FrAt w8 w.heap.size A8 1 c8 [endF ys]) := Lib.hid (own_mono hp8.out.2.1 HS7.out.keep.size)
                clear hp8 z0 z1 z2 z3 z4 z5 z6 z7 zf0 zf1 zf2 zf3 zf4 zf5 zf6 zf7
                go_wp2_with fail
                go_roundg (2000 - (bl + 1))
                case measure => rw [HQ.out]; omega
                case rel => exact ⟨bl + 1, A8, c8, 1, p + m, rfl, by have := HPp.out; have := HNn.out; omega, by go_num, by go_num, rfl, .inr ⟨Nat.le_of_eq HE.out, ansF m 127, V, m, rfl, HS8.out, HF8.out⟩⟩
      · obtain ⟨la0, V0, mm, rfl, hs0, hf0⟩ := hst
        obtain ⟨bq, oq, rfl, hbq, _⟩ := fr_at (j := 0) (f := endF ys) hf0.row rfl
        have HS0 := Lib.hid hs0
        have HF0' := Lib.hid hf0
        have HBase : Hid (w1.heap.size ≤ wo.heap.size) := Lib.hid hs0.rcv.bs
        rw [← HNn.out] at hkn
        clear hs0 hf0
        go_wp2_with fail
        go_loopg [13, 16, 17] 1 (fun q' s13 s16 s17 wi => ∃ i kk is, i ≤ 1 ∧ q' = 1 - i ∧ s17 = .int .i64 (i : Nat) ∧ s13 = .int .i64 (kk : Nat) ∧ kk ≤ 1000 + i ∧ s16 = .bool is ∧ FrAt wi w.heap.size (some ⟨bq, oq, none⟩) 1 c [endF ys] ∧ ((i = 0 ∧ is = false ∧ Sess w wi gs gr w1.heap.size (sndAt A1 c1 ys (segs ys) mm true) ⟨127, 1, 0, la0, V0, padsB ys a q y (segs ys), 0⟩ ∧ Blk wi wo.heap.size (frameC fun _ => 0) 30) ∨ (i = 1 ∧ is = true ∧ ∃ V, Sess w wi gs gr w1.heap.size (sndAt A1 c1 ys (segs ys) mm true) ⟨127, 2, 0, la0, V, ys, 0⟩) ∨ (i = 1 ∧ is = true ∧ by' ≠ 0 ∧ ∃ V, Sess w wi gs gr w1.heap.size (sndAt A1 c1 ys (segs ys) mm true) ⟨127, 2, 0, la0, V, [], 84148228⟩)))
        case atStart => exact ⟨0, kn, false, by omega, rfl, rfl, rfl, by omega, rfl, HF0'.out.new ((Keep.refl Own.Zero wo).alloc _), .inl ⟨rfl, rfl, HS0.out.new ((Keep.refl Own.Zero wo).alloc _), Blk.new wo _ _⟩⟩
        case round =>
          obtain ⟨i, kk, is, him, hqi, rfl, rfl, hkk, rfl, hfr, hwi⟩ := hrel
          have HQi := Lib.hid hqi
          have HFr := Lib.hid hfr
          clear hqi hfr
          rcases hwi with ⟨hi0, rfl, hs, hba⟩ | ⟨hi0, rfl, V, hs⟩ | ⟨hi0, rfl, hby, V, hs⟩
          · have hi1 : (i : Int) < 1 := by omega
            have HS := Lib.hid hs
            have HBa := Lib.hid hba
            obtain ⟨F, hF⟩ : ∃ F, F = endF ys := ⟨_, rfl⟩
            have HFf := Lib.hid hF
            have hf193 : ¬ F 0 < 193 := by
              rw [hF]
              unfold endF
              rw [if_pos rfl]
              omega
            obtain ⟨b', o', hb', _, hz⟩ := fr_at (j := i) (f := endF ys) HFr.out.row (by rw [hi0]; rfl)
            cases hb'
            rw [← hF] at hz
            have x0 := hz 0 (by omega)
            have x1 := hz 1 (by omega)
            have x2 := hz 2 (by omega)
            have x3 := hz 3 (by omega)
            have x4 := hz 4 (by omega)
            have x5 := hz 5 (by omega)
            have x6 := hz 6 (by omega)
            have x7 := hz 7 (by omega)
            simp only [← Nat.add_assoc, Nat.add_zero] at x0 x1 x2 x3 x4 x5 x6 x7
            have HI0 := Lib.hid hi0
            clear hs hba hF hz hi0
            go_wp2_with fail
            refine (SDone_is (HS.out.new ((Keep.refl Own.Zero wr).alloc _)).snd).mono ?_
            rintro e w17 ⟨rfl, hk17⟩
            have HK17 : Hid (Keep Own.Zero wr w17) := Lib.hid (((Keep.refl Own.Zero wr).alloc _).trans hk17.out (fun _ h => h.elim))
            have HBx : Hid (Blk w17 wr.heap.size #[.int .u8 (F 0), .int .u8 (F 1), .int .u8 (F 2), .int .u8 (F 3), .int .u8 (F 4), .int .u8 (F 5), .int .u8 (F 6), .int .u8 (F 7)] 30) := Lib.hid ((Blk.new wr _ _).keep hk17.out id)
            have HS17 := Lib.hid (HS.out.new HK17.out)
            have HBa17 := Lib.hid (HBa.out.keep HK17.out id)
            have HFr17 := Lib.hid (HFr.out.new HK17.out)
            rw [show (sndAt A1 c1 ys (segs ys) mm true).code = 0 from rfl, show (sndAt A1 c1 ys (segs ys) mm true).done = false from rfl]
            clear hk17 x0 x1 x2 x3 x4 x5 x6 x7
            have y0 : w17.cell? ⟨wr.heap.size, 0, none⟩ = some (.int .u8 (F 0)) := HBx.out.cell 0
            have y1 : w17.cell? ⟨wr.heap.size, 1, none⟩ = some (.int .u8 (F 1)) := HBx.out.cell 1
            have y2 : w17.cell? ⟨wr.heap.size, 2, none⟩ = some (.int .u8 (F 2)) := HBx.out.cell 2
            have y3 : w17.cell? ⟨wr.heap.size, 3, none⟩ = some (.int .u8 (F 3)) := HBx.out.cell 3
            have y4 : w17.cell? ⟨wr.heap.size, 4, none⟩ = some (.int .u8 (F 4)) := HBx.out.cell 4
            have y5 : w17.cell? ⟨wr.heap.size, 5, none⟩ = some (.int .u8 (F 5)) := HBx.out.cell 5
            have y6 : w17.cell? ⟨wr.heap.size, 6, none⟩ = some (.int .u8 (F 6)) := HBx.out.cell 6
            have y7 : w17.cell? ⟨wr.heap.size, 7, none⟩ = some (.int .u8 (F 7)) := HBx.out.cell 7
            by_cases hka : kk = a
            · have hka2 : (kk : Int) = (a : Int) := by omega
              have HKa := Lib.hid hka
              clear hka
              go_wp2_with fail
              have hrl := HS17.out.rcv
              have hpl := padsB_length ys a q y (segs ys)
              have hyl : ys.length ≤ 65536 := by rw [← HN.out]; omega
              by_cases hsame : (padsB ys a q y (segs ys)).take ys.length = ys
              · have hcall := feed_end_good hrl HI.out.byte hyl hpl hsame
                rw [← HFf.out] at hcall
                refine hcall.mono ?_
                rintro e w6 ⟨rfl, V6, hp⟩
                have hl6 := HS17.out.laid HBa17.out HBase.out hp.out.1 hp.out.2
                have HF6 := Lib.hid (HFr17.out.rstep HS17.out.rcv hp.out.2)
                have HS6 := Lib.hid hl6.1
                have HB6 := Lib.hid hl6.2
                clear hcall hp hl6 hsame hrl hpl hyl y0 y1 y2 y3 y4 y5 y6 y7
                rw [show aggF (fun k => if k = 0 then 161 else 0) = .agg #[.int .u8 161, .int .u8 0, .int .u8 0, .int .u8 0, .int .u8 0, .int .u8 0, .int .u8 0, .int .u8 0] from rfl]
                have z0 := (HB6.out).cell 0
                have z1 := (HB6.out).cell 1
                have z2 := (HB6.out).cell 2
                have z3 := (HB6.out).cell 3
                have z4 := (HB6.out).cell 4
                have z5 := (HB6.out).cell 5
                have z6 := (HB6.out).cell 6
                have z7 := (HB6.out).cell 7
                have zf0 := (HB6.out).frozen 0
                have zf1 := (HB6.out).frozen 1
                have zf2 := (HB6.out).frozen 2
                have zf3 := (HB6.out).frozen 3
                have zf4 := (HB6.out).frozen 4
                have zf5 := (HB6.out).frozen 5
                have zf6 := (HB6.out).frozen 6
                have zf7 := (HB6.out).frozen 7
                simp only [frameC, List.getElem?_toArray, List.getElem?_cons_zero, List.getElem?_cons_succ] at z0 z1 z2 z3 z4 z5 z6 z7
                go_wp2_with fail
                have HK7 : Hid (Keep (Own.One wo.heap.size) w6 _) := Lib.hid (keep8 (Keep.refl (Own.One wo.heap.size) w6) (.inl rfl) (.int .u8 161) (.int .u8 0) (.int .u8 0) (.int .u8 0) (.int .u8 0) (.int .u8 0) (.int .u8 0) (.int .u8 0))
                have hfr7 := HF6.out.far (fun a ha => by cases ha; exact Nat.ne_of_lt hbq) HK7.out
                have hs7 := HS6.out.far HB6.out HBase.out HK7.out
                go_roundg (1 - (i + 1))
                case measure => rw [HQi.out]; have := HI0.out; omega
                case rel => exact ⟨i + 1, kk + 1, true, by have := HI0.out; omega, rfl, by go_num, by go_num, by omega, rfl, hfr7, .inr (.inl ⟨by rw [HI0.out], rfl, V6, hs7⟩)⟩
              · have hbad : crc ((padsB ys a q y (segs ys)).take ys.length) ≠ crc ys ∧ by' ≠ 0 := by
                  rcases padsB_take ys a q y with h | ⟨_, h⟩
                  · exact absurd h hsame
                  · have hin : 7 * a + q < ys.length := by
                      rcases Nat.lt_or_ge (7 * a + q) ys.length with h1 | h1
                      · exact h1
                      · rw [h, List.set_eq_of_length_le h1] at hsame
                        exact absurd rfl hsame
                    have hgd : ys.getD (7 * a + q) 0 = ys[7 * a + q] := by
                      rw [List.getD_eq_getElem?_getD, List.getElem?_eq_getElem hin]
                      rfl
                    have hne : ys[7 * a + q] ≠ y := fun e => by
                      rw [h, ← e, List.set_getElem_self] at hsame
                      exact absurd rfl hsame
                    refine ⟨by rw [h]; exact crc_set HI.out.byte hin HYb.out.1 HYb.out.2 hne, ?_⟩
                    have hb := HI.out.byte _ (List.getElem_mem hin)
                    refine (xor_byte hb.1 hb.2 by0 by1).2.2 ?_
                    rw [← hgd, ← HYy.out, hgd]
                    exact fun e => hne e.symm
                have HBad := Lib.hid hbad
                have hcall := feed_end_bad hrl HI.out.byte hyl hpl hbad.1
                rw [← HFf.out] at hcall
                refine hcall.mono ?_
                rintro e w6 ⟨rfl, V6, hp⟩
                have hl6 := HS17.out.laid HBa17.out HBase.out hp.out.1 hp.out.2
                have HF6 := Lib.hid (HFr17.out.rstep HS17.out.rcv hp.out.2)
                have HS6 := Lib.hid hl6.1
                have HB6 := Lib.hid hl6.2
                clear hcall hp hl6 hsame hrl hpl hyl hbad y0 y1 y2 y3 y4 y5 y6 y7
                rw [show aggF (abF 84148228) = .agg #[.int .u8 (abF 84148228 0), .int .u8 (abF 84148228 1), .int .u8 (abF 84148228 2), .int .u8 (abF 84148228 3), .int .u8 (abF 84148228 4), .int .u8 (abF 84148228 5), .int .u8 (abF 84148228 6), .int .u8 (abF 84148228 7)] from rfl]
                have z0 := (HB6.out).cell 0
                have z1 := (HB6.out).cell 1
                have z2 := (HB6.out).cell 2
                have z3 := (HB6.out).cell 3
                have z4 := (HB6.out).cell 4
                have z5 := (HB6.out).cell 5
                have z6 := (HB6.out).cell 6
                have z7 := (HB6.out).cell 7
                have zf0 := (HB6.out).frozen 0
                have zf1 := (HB6.out).frozen 1
                have zf2 := (HB6.out).frozen 2
                have zf3 := (HB6.out).frozen 3
                have zf4 := (HB6.out).frozen 4
                have zf5 := (HB6.out).frozen 5
                have zf6 := (HB6.out).frozen 6
                have zf7 := (HB6.out).frozen 7
                simp only [frameC, List.getElem?_toArray, List.getElem?_cons_zero, List.getElem?_cons_succ] at z0 z1 z2 z3 z4 z5 z6 z7
                go_wp2_with fail
                have HK7 : Hid (Keep (Own.One wo.heap.size) w6 _) := Lib.hid (keep8 (Keep.refl (Own.One wo.heap.size) w6) (.inl rfl) (.int .u8 (abF 84148228 0)) (.int .u8 (abF 84148228 1)) (.int .u8 (abF 84148228 2)) (.int .u8 (abF 84148228 3)) (.int .u8 (abF 84148228 4)) (.int .u8 (abF 84148228 5)) (.int .u8 (abF 84148228 6)) (.int .u8 (abF 84148228 7)))
                have hfr7 := HF6.out.far (fun a ha => by cases ha; exact Nat.ne_of_lt hbq) HK7.out
                have hs7 := HS6.out.far HB6.out HBase.out HK7.out
                go_roundg (1 - (i + 1))
                case measure => rw [HQi.out]; have := HI0.out; omega
                case rel => exact ⟨i + 1, kk + 1, true, by have := HI0.out; omega, rfl, by go_num, by go_num, by omega, rfl, hfr7, .inr (.inr ⟨by rw [HI0.out], rfl, HBad.out.2, V6, hs7⟩)⟩
            · have hka2 : ¬ (kk : Int) = (a : Int) := by omega
              clear hka
              go_wp2_with fail
              have hrl := HS17.out.rcv
              have hpl := padsB_length ys a q y (segs ys)
              have hyl : ys.length ≤ 65536 := by rw [← HN.out]; omega
              by_cases hsame : (padsB ys a q y (segs ys)).take ys.length = ys
              · have hcall := feed_end_good hrl HI.out.byte hyl hpl hsame
                rw [← HFf.out] at hcall
                refine hcall.mono ?_
                rintro e w6 ⟨rfl, V6, hp⟩
                have hl6 := HS17.out.laid HBa17.out HBase.out hp.out.1 hp.out.2
                have HF6 := Lib.hid (HFr17.out.rstep HS17.out.rcv hp.out.2)
                have HS6 := Lib.hid hl6.1
                have HB6 := Lib.hid hl6.2
                clear hcall hp hl6 hsame hrl hpl hyl y0 y1 y2 y3 y4 y5 y6 y7
                rw [show aggF (fun k => if k = 0 then 161 else 0) = .agg #[.int .u8 161, .int .u8 0, .int .u8 0, .int .u8 0, .int .u8 0, .int .u8 0, .int .u8 0, .int .u8 0] from rfl]
                have z0 := (HB6.out).cell 0
                have z1 := (HB6.out).cell 1
                have z2 := (HB6.out).cell 2
                have z3 := (HB6.out).cell 3
                have z4 := (HB6.out).cell 4
                have z5 := (HB6.out).cell 5
                have z6 := (HB6.out).cell 6
                have z7 := (HB6.out).cell 7
                have zf0 := (HB6.out).frozen 0
                have zf1 := (HB6.out).frozen 1
                have zf2 := (HB6.out).frozen 2
                have zf3 := (HB6.out).frozen 3
                have zf4 := (HB6.out).frozen 4
                have zf5 := (HB6.out).frozen 5
                have zf6 := (HB6.out).frozen 6
                have zf7 := (HB6.out).frozen 7
                simp only [frameC, List.getElem?_toArray, List.getElem?_cons_zero, List.getElem?_cons_succ] at z0 z1 z2 z3 z4 z5 z6 z7
                go_wp2_with fail
                have HK7 : Hid (Keep (Own.One wo.heap.size) w6 _) := Lib.hid (keep8 (Keep.refl (Own.One wo.heap.size) w6) (.inl rfl) (.int .u8 161) (.int .u8 0) (.int .u8 0) (.int .u8 0) (.int .u8 0) (.int .u8 0) (.int .u8 0) (.int .u8 0))
                have hfr7 := HF6.out.far (fun a ha => by cases ha; exact Nat.ne_of_lt hbq) HK7.out
                have hs7 := HS6.out.far HB6.out HBase.out HK7.out
                go_roundg (1 - (i + 1))
                case measure => rw [HQi.out]; have := HI0.out; omega
                case rel => exact ⟨i + 1, kk + 1, true, by have := HI0.out; omega, rfl, by go_num, by go_num, by omega, rfl, hfr7, .inr (.inl ⟨by rw [HI0.out], rfl, V6, hs7⟩)⟩
              · have hbad : crc ((padsB ys a q y (segs ys)).take ys.length) ≠ crc ys ∧ by' ≠ 0 := by
                  rcases padsB_take ys a q y with h | ⟨_, h⟩
                  · exact absurd h hsame
                  · have hin : 7 * a + q < ys.length := by
                      rcases Nat.lt_or_ge (7 * a + q) ys.length with h1 | h1
                      · exact h1
                      · rw [h, List.set_eq_of_length_le h1] at hsame
                        exact absurd rfl hsame
                    have hgd : ys.getD (7 * a + q) 0 = ys[7 * a + q] := by
                      rw [List.getD_eq_getElem?_getD, List.getElem?_eq_getElem hin]
                      rfl
                    have hne : ys[7 * a + q] ≠ y := fun e => by
                      rw [h, ← e, List.set_getElem_self] at hsame
                      exact absurd rfl hsame
                    refine ⟨by rw [h]; exact crc_set HI.out.byte hin HYb.out.1 HYb.out.2 hne, ?_⟩
                    have hb := HI.out.byte _ (List.getElem_mem hin)
                    refine (xor_byte hb.1 hb.2 by0 by1).2.2 ?_
                    rw [← hgd, ← HYy.out, hgd]
                    exact fun e => hne e.symm
                have HBad := Lib.hid hbad
                have hcall := feed_end_bad hrl HI.out.byte hyl hpl hbad.1
                rw [← HFf.out] at hcall
                refine hcall.mono ?_
                rintro e w6 ⟨rfl, V6, hp⟩
                have hl6 := HS17.out.laid HBa17.out HBase.out hp.out.1 hp.out.2
                have HF6 := Lib.hid (HFr17.out.rstep HS17.out.rcv hp.out.2)
                have HS6 := Lib.hid hl6.1
                have HB6 := Lib.hid hl6.2
                clear hcall hp hl6 hsame hrl hpl hyl hbad y0 y1 y2 y3 y4 y5 y6 y7
                rw [show aggF (abF 84148228) = .agg #[.int .u8 (abF 84148228 0), .int .u8 (abF 84148228 1), .int .u8 (abF 84148228 2), .int .u8 (abF 84148228 3), .int .u8 (abF 84148228 4), .int .u8 (abF 84148228 5), .int .u8 (abF 84148228 6), .int .u8 (abF 84148228 7)] from rfl]
                have z0 := (HB6.out).cell 0
                have z1 := (HB6.out).cell 1
                have z2 := (HB6.out).cell 2
                have z3 := (HB6.out).cell 3
                have z4 := (HB6.out).cell 4
                have z5 := (HB6.out).cell 5
                have z6 := (HB6.out).cell 6
                have z7 := (HB6.out).cell 7
                have zf0 := (HB6.out).frozen 0
                have zf1 := (HB6.out).frozen 1
                have zf2 := (HB6.out).frozen 2
                have zf3 := (HB6.out).frozen 3
                have zf4 := (HB6.out).frozen 4
                have zf5 := (HB6.out).frozen 5
                have zf6 := (HB6.out).frozen 6
                have zf7 := (HB6.out).frozen 7
                simp only [frameC, List.getElem?_toArray, List.getElem?_cons_zero, List.getElem?_cons_succ] at z0 z1 z2 z3 z4 z5 z6 z7
                go_wp2_with fail
                have HK7 : Hid (Keep (Own.One wo.heap.size) w6 _) := Lib.hid (keep8 (Keep.refl (Own.One wo.heap.size) w6) (.inl rfl) (.int .u8 (abF 84148228 0)) (.int .u8 (abF 84148228 1)) (.int .u8 (abF 84148228 2)) (.int .u8 (abF 84148228 3)) (.int .u8 (abF 84148228 4)) (.int .u8 (abF 84148228 5)) (.int .u8 (abF 84148228 6)) (.int .u8 (abF 84148228 7)))
                have hfr7 := HF6.out.far (fun a ha => by cases ha; exact Nat.ne_of_lt hbq) HK7.out
                have hs7 := HS6.out.far HB6.out HBase.out HK7.out
                go_roundg (1 - (i + 1))
                case measure => rw [HQi.out]; have := HI0.out; omega
                case rel => exact ⟨i + 1, kk + 1, true, by have := HI0.out; omega, rfl, by go_num, by go_num, by omega, rfl, hfr7, .inr (.inr ⟨by rw [HI0.out], rfl, HBad.out.2, V6, hs7⟩)⟩
          · have hnl : ¬ (i : Int) < 1 := by omega
            have HS := Lib.hid hs
            clear hs hi0
            go_wp2_with fail
            refine (RDone_over HS.out.rcv rfl).mono ?_
            rintro e w10 ⟨A10, c10, rfl, hp10⟩
            have HGot := Lib.hid hp10.out.1
            have HK10 : Hid (Keep Own.Zero w w10) := Lib.hid (HS.out.keep.trans hp10.out.2 (fun _ h => h.elim))
            have HB10 : Hid (Row w10 A (ints .u8 ys)) := Lib.hid (HI.out.row.keep HK10.out (fun _ _ _ => id))
            clear hp10
            have hs1 : Sem.run Try.prog (convert 22 9 (.slice A10 n c10)) w10 = .ok (.string (str ys)) w10 := run_str under22 under5 under9 HGot.out.row n HN.out
            have hs2 : Sem.run Try.prog (convert 22 9 (.slice A n cA)) w10 = .ok (.string (str ys)) w10 := run_str under22 under5 under9 HB10.out n HN.out
            rw [show (⟨127, 2, 0, la0, V, ys, 0⟩ : Rcv).xs = ys from rfl, show (⟨127, 2, 0, la0, V, ys, 0⟩ : Rcv).code = 0 from rfl, ← HN.out]
            go_wp2_with ((with_reducible refine (lives_is _).mono ?_); rintro e w11 ⟨rfl, hk11⟩)
            go_ret
            exact ⟨rfl, HK10.out.trans hk11.out (fun _ h => h.elim)⟩
          · have hnl : ¬ (i : Int) < 1 := by omega
            have HS := Lib.hid hs
            clear hs hi0
            go_wp2_with fail
            refine (RDone_over HS.out.rcv rfl).mono ?_
            rintro e w10 ⟨A10, c10, rfl, hp10⟩
            have HK10 : Hid (Keep Own.Zero w w10) := Lib.hid (HS.out.keep.trans hp10.out.2 (fun _ h => h.elim))
            clear hp10
            rw [show (⟨127, 2, 0, la0, V, [], 84148228⟩ : Rcv).xs = [] from rfl, show (⟨127, 2, 0, la0, V, [], 84148228⟩ : Rcv).code = 84148228 from rfl]
            go_wp2_with ((with_reducible refine (lives_is _).mono ?_); rintro e w11 ⟨rfl, hk11⟩)
            go_ret
            exact ⟨rfl, HK10.out.trans hk11.out (fun _ h => h.elim)⟩
theorem told_walk' (A : Option Addr) (c : Nat) (xs : List Int) (at' : Int) (a0 : 0 ≤ at') (a1 : at' ≤ 65535) (by' : Int) (by0 : 0 ≤ by') (by1 : by' ≤ 255) (w : World) (h : In w A c xs) :
    Calls Try.prog 4 #[.slice A xs.length c, .int .u16 at', .int .u8 by'] w fun e w' => e = .returned (.bool true) ∧ Keep Own.Zero w w' := by
  obtain ⟨n, rfl⟩ : ∃ n : Nat, at' = n := ⟨at'.toNat, by omega⟩
  exact told_walk A c xs n (by omega) by' by0 by1 w h
end Go.Proofs.Ytdmomhbimhggiaa.Block
