/- goes: a sender and a receiver, where frames are lost. -/
import Derived.Test.YtdmomhbimhggiaaBlockI
namespace Go.Proofs.Ytdmomhbimhggiaa.Block
open Go.RowKit Go.Proofs.Ytdmomhbimhggiaa.Own Go.Proofs.Ytdmomhbimhggiaa.Crc
def sndAt (A1 : Option Addr) (c1 : Nat) (bs : List Int) (p m : Nat) (ends : Bool) : Snd := ⟨A1, c1, bs, p, m, true, ends, false, 0⟩
/-- Between two blocks. -/
def DataSt (w0 wr : World) (gs gr base : Nat) (A1 : Option Addr) (c1 : Nat) (bs : List Int) (k p m : Nat) (A : Option Addr) (c : Nat) : Prop :=
  ∃ la V, Sess w0 wr gs gr base (sndAt A1 c1 bs p m false) (rAt k p 0 bs la V) ∧ FrAt wr w0.heap.size A m c (framesF bs p m) ∧ p < segs bs
/-- Ahead of the end. -/
def EndSt (w0 wr : World) (gs gr base : Nat) (A1 : Option Addr) (c1 : Nat) (bs : List Int) (k m : Nat) (A : Option Addr) (c : Nat) : Prop :=
  ∃ la V mm, m = 1 ∧ Sess w0 wr gs gr base (sndAt A1 c1 bs (segs bs) mm true) ⟨k, 1, 0, la, V, pads bs (segs bs), 0⟩ ∧ FrAt wr w0.heap.size A 1 c [endF bs]
/-- Within a block. -/
def Within (w0 wi : World) (gs gr base : Nat) (A1 : Option Addr) (c1 : Nat) (bs : List Int) (k p m i ba : Nat) (is : Bool) : Prop :=
  (∃ c' la V G, is = false ∧ c' ≤ i ∧ (0 < i → 0 < c') ∧ p + c' < segs bs ∧ Sess w0 wi gs gr base (sndAt A1 c1 bs p m false) (rAt k p c' bs la V) ∧ Blk wi ba (frameC G) 30) ∨
  (∃ V, is = true ∧ i = m ∧ p + m ≤ segs bs ∧ Sess w0 wi gs gr base (sndAt A1 c1 bs p m false) (rAns k p m bs V) ∧ Blk wi ba (frameC (ansF m k)) 30)
theorem framesF_get {bs : List Int} {p m i : Nat} (h : i < m) : (framesF bs p m)[i]? = some (segF bs (p + i) i) := by
  unfold framesF
  rw [List.getElem?_map, List.getElem?_range h]
  rfl
theorem aggF_0 : aggF (fun _ => 0) = .agg #[.int .u8 0, .int .u8 0, .int .u8 0, .int .u8 0, .int .u8 0, .int .u8 0, .int .u8 0, .int .u8 0] := rfl
/-- A piece of the walk: what stays where a call of the receiver has worked and its answer is laid down. -/
theorem Sess.laid {w0 w w6 : World} {gs gr base ba : Nat} {s : Snd} {r r1 : Rcv} {cs : Array Value} (h : Sess w0 w gs gr base s r) (hb : Blk w ba cs 30) (_hbb : base ≤ ba) (h1 : IsRcv w6 gr base r1) (k : Keep (RS r gr) w w6) : Sess w0 w6 gs gr base s r1 ∧ Blk w6 ba cs 30 :=
  ⟨h.rstep h1 k, hb.keep k (fun e => by
    rcases e with rfl | e
    · exact Blk.ne_ty h.rcv.blk hb (by decide) rfl
    · exact own_far h.rcv.own hb (by decide) e)⟩
set_option maxRecDepth 100000 in
set_option maxHeartbeats 4000000 in
theorem goes_is {w : World} {A : Option Addr} {cA n : Nat} {bs : List Int} (h : In w A cA bs) (hn : n = bs.length) (hl : bs.length ≤ 3000) (k : Nat) (k0 : 1 ≤ k) (k1 : k ≤ 127) {B : Option Addr} {d K : Nat} {ls : List Bool} (hB : Row w B (ls.map Value.bool)) (hK : K = ls.length) :
    Calls Try.prog 18 #[.slice A n cA, .int .i64 k, .slice B K d] w fun e w' => ∃ x : Nat, e = .returned (.tuple #[.int .i64 x, .bool true]) ∧ x ≤ segs bs ∧ Hid (Keep Own.Zero w w') := by
  have HI := Lib.hid h
  have HN := Lib.hid hn
  have HB := Lib.hid hB
  have HKl := Lib.hid hK
  have HL := Lib.hid hl
  clear h hn hl hB hK
  go_enter Try.func18, Try.ntmps18
  go_wp2_with fail
  refine (NewSender_ok HI.out (by have := HL.out; omega) n HN.out).mono ?_
  rintro e w1 ⟨gs, A1, c1, rfl, hp1⟩
  have HP1 := hp1
  have HA1 : Hid (∀ a, A1 = some a → a.block < w1.heap.size) := Lib.hid (fun a ha => (HP1.out.2.2.2 a ha).2)
  clear hp1
  go_wp2_with fail
  refine (NewReceiver_ok w1 k k0 k1).mono ?_
  rintro e w2 ⟨gr, rfl, hp2⟩
  have HP2 := hp2
  clear hp2
  go_wp2_with fail
  refine (Begin_ok (HP1.out.1.keep HP2.out.2.1 id (fun _ _ => id)) rfl rfl k k0 k1 _ rfl).mono ?_
  rintro e w3 ⟨A3, c3, rfl, hp3⟩
  have HD3 : Hid (DataSt w w3 gs gr w1.heap.size A1 c1 bs k 0 (min k (segs bs)) A3 c3) := Lib.hid (by
    have hS2 : Sess w w2 gs gr w1.heap.size ⟨A1, c1, bs, 0, 0, false, false, false, 0⟩ (rAt k 0 0 bs (fun _ => 0) (.slice none 0 0)) :=
      ⟨HP1.out.1.keep HP2.out.2.1 id (fun _ _ => id), HP2.out.1, HP1.out.1.blk.lt, HA1.out, HP2.out.2.2, HP1.out.2.1.trans HP2.out.2.1 (fun _ h => h.elim), HP1.out.2.2.1⟩
    exact ⟨_, _, hS2.sstep hp3.out.1 rfl hp3.out.2.2, own_mono hp3.out.2.1 hS2.keep.size, (segs_bound bs).2.2⟩)
  clear HP1 HP2 hp3 HA1
  obtain ⟨m0, hm0⟩ : ∃ m0, m0 = min k (segs bs) := ⟨_, rfl⟩
  rw [← hm0] at HD3 ⊢
  have HM0 := Lib.hid hm0
  clear hm0
  go_wp2_with fail
  go_loopg [12, 14, 15] 11999 (fun q s12 s14 s15 wr => ∃ bl Af c m cnt p, q = 12000 - bl ∧ 1 ≤ bl ∧ bl ≤ segs bs + 1 ∧ s15 = .int .i64 (bl : Nat) ∧ s14 = .int .i64 (cnt : Nat) ∧ cnt ≤ 127 * bl ∧ s12 = .slice Af m c ∧
    ((DataSt w wr gs gr w1.heap.size A1 c1 bs k p m Af c ∧ bl ≤ p + 1 ∧ m = min k (segs bs - p)) ∨ EndSt w wr gs gr w1.heap.size A1 c1 bs k m Af c))
  case atStart => exact ⟨1, A3, c3, m0, 0, 0, by omega, by omega, by omega, rfl, rfl, by omega, rfl, .inl ⟨HD3.out, by omega, HM0.out⟩⟩
  case round =>
    obtain ⟨bl, Af, c, m, cnt, p, hq, hb1, hb2, rfl, rfl, hcnt, rfl, hst⟩ := hrel
    have HQ := Lib.hid hq
    have sb := segs_bound bs
    have hlen := HL.out
    obtain ⟨N, hN⟩ : ∃ N, N = segs bs := ⟨_, rfl⟩
    rw [← hN] at hb2 sb
    have hNb : N ≤ 430 := by omega
    have HNn := Lib.hid hN
    have hlt : (bl : Int) < 12000 := by omega
    clear hq hN hlen sb
    obtain ⟨wo, hwo⟩ : ∃ x, x = wr := ⟨_, rfl⟩
    subst hwo
    rcases hst with ⟨hst, hbp, hm⟩ | hst
    · obtain ⟨la0, V0, hs0, hf0, hpN⟩ := hst
      rw [← HNn.out] at hpN hm
      have hm1 : 1 ≤ m := by omega
      have hmk : m ≤ k := by omega
      have hmN : p + m ≤ N := by omega
      obtain ⟨bq, oq, rfl, hbq, _⟩ := fr_at hf0.row (framesF_get (bs := bs) (p := p) (show 0 < m by omega))
      have HS0 := Lib.hid hs0
      have HF0 := Lib.hid hf0
      have HMm := Lib.hid hm
      have HBase : Hid (w1.heap.size ≤ wo.heap.size) := Lib.hid hs0.rcv.bs
      clear hs0 hf0 hm
      go_wp2_with fail
      go_loopg [14, 17, 18] m (fun q s14 s17 s18 wi => ∃ i cnt is, i ≤ m ∧ q = m - i ∧ s18 = .int .i64 (i : Nat) ∧ s14 = .int .i64 (cnt : Nat) ∧ cnt ≤ 127 * bl + i ∧ s17 = .bool is ∧ FrAt wi w.heap.size (some ⟨bq, oq, none⟩) m c (framesF bs p m) ∧ Within w wi gs gr w1.heap.size A1 c1 bs k p m i wo.heap.size is)
      case atStart => exact ⟨0, cnt, false, Nat.zero_le _, rfl, rfl, rfl, hcnt, rfl, HF0.out.new ((Keep.refl Own.Zero wo).alloc _), .inl ⟨0, la0, V0, fun _ => 0, rfl, Nat.le_refl _, (fun h => by omega), by rw [← HNn.out]; exact hpN, HS0.out.new ((Keep.refl Own.Zero wo).alloc _), Blk.new wo _ _⟩⟩
      case round =>
        obtain ⟨i, cn, is, him, hqi, rfl, rfl, hcn, rfl, hfr, hwi⟩ := hrel
        have HQi := Lib.hid hqi
        have HFr := Lib.hid hfr
        clear hqi hfr
        by_cases hilt : i < m
        · have hi1 : (i : Int) < (m : Int) := by omega
          have hi0 : (0 : Int) ≤ (i : Int) := by omega
          rcases hwi with ⟨c', la, V, G, rfl, hci, hc0, hcN, hs, hba⟩ | ⟨V, rfl, h2, _⟩
          · have HS := Lib.hid hs
            have HBa := Lib.hid hba
            rw [← HNn.out] at hcN
            obtain ⟨F, hF⟩ : ∃ F, F = segF bs (p + i) i := ⟨_, rfl⟩
            have HFf := Lib.hid hF
            obtain ⟨b', o', hb', _, hz⟩ := fr_at HFr.out.row (framesF_get (bs := bs) (p := p) hilt)
            cases hb'
            rw [← hF] at hz
            have x0 := hz 0 (by omega)
            have x1 := hz 1 (by omega)
            have x2 := hz 2 (by omega)
            have x3 := hz 3 (by omega)
            have x4 := hz 4 (by omega)
            have x5 := hz 5 (by omega)
            have x6 := hz 6 (by omega)
            have x7 := hz 7 (by omega)
            simp only [← Nat.add_assoc, Nat.add_zero] at x0 x1 x2 x3 x4 x5 x6 x7
            have hwc : IntKind.i64.wrap ((cn : Int) + 1) = ((cn + 1 : Nat) : Int) := by rw [IntWalk.i64_in _ (by omega)]; omega
            clear hs hba hF hz
            by_cases hi00 : i = 0
            · have hi9 : ¬ 0 < i := by omega
              have HI9 := Lib.hid hi00
              clear hi00
              go_wp2_with fail
              by_cases hci2 : c' = i
              · have hci3 := hci2.symm
                subst hci3
                rw [HNn.out] at hcN
                have hcall := feed_next HS.out.rcv HI.out.byte (by have := HL.out; omega) (by omega) hcN
                rw [← HFf.out] at hcall
                refine hcall.mono ?_
                rintro e w6 (⟨hc9, rfl, V6, hp⟩ | ⟨hc9, rfl, V6, hp⟩)
                · have hl6 := HS.out.laid HBa.out HBase.out hp.out.1 hp.out.2
                  have him1 : i + 1 = m := by have := HMm.out; have := HNn.out; omega
                  rw [him1] at hl6
                  have HS6 := Lib.hid hl6.1
                  have HB6 := Lib.hid hl6.2
                  have HKr := Lib.hid hp.out.2
                  have HHc := Lib.hid hc9
                  clear hcall hp hl6 hc9
                  rw [aggF_ans]
                  have z0 := (HB6.out).cell 0
                  have z1 := (HB6.out).cell 1
                  have z2 := (HB6.out).cell 2
                  have z3 := (HB6.out).cell 3
                  have z4 := (HB6.out).cell 4
                  have z5 := (HB6.out).cell 5
                  have z6 := (HB6.out).cell 6
                  have z7 := (HB6.out).cell 7
                  have zf0 := (HB6.out).frozen 0
                  have zf1 := (HB6.out).frozen 1
                  have zf2 := (HB6.out).frozen 2
                  have zf3 := (HB6.out).frozen 3
                  have zf4 := (HB6.out).frozen 4
                  have zf5 := (HB6.out).frozen 5
                  have zf6 := (HB6.out).frozen 6
                  have zf7 := (HB6.out).frozen 7
                  simp only [frameC, List.getElem?_toArray, List.getElem?_cons_zero, List.getElem?_cons_succ] at z0 z1 z2 z3 z4 z5 z6 z7
                  clear x0 x1 x2 x3 x4 x5 x6 x7
                  go_wp2_with fail
                  have HK7 : Hid (Keep (Own.One wo.heap.size) w6 _) := Lib.hid (keep8 (Keep.refl (Own.One wo.heap.size) w6) (.inl rfl) (.int .u8 162) (.int .u8 m) (.int .u8 k) (.int .u8 0) (.int .u8 0) (.int .u8 0) (.int .u8 0) (.int .u8 0))
                  have hfr7 := (HFr.out.rstep HS.out.rcv HKr.out).far (fun a ha => by cases ha; exact Nat.ne_of_lt hbq) HK7.out
                  have hs7 := HS6.out.far HB6.out HBase.out HK7.out
                  have hb7 := blk8 HB6.out (.int .u8 162) (.int .u8 m) (.int .u8 k) (.int .u8 0) (.int .u8 0) (.int .u8 0) (.int .u8 0) (.int .u8 0)
                  go_roundg (m - (i + 1))
                  case measure => rw [HQi.out]; omega
                  case rel => exact ⟨i + 1, cn + 1, true, hilt, rfl, by go_num, by go_num, by omega, rfl, hfr7, .inr ⟨V6, rfl, him1, by rw [← HNn.out]; omega, hs7, hb7⟩⟩
                · have hl6 := HS.out.laid HBa.out HBase.out hp.out.1 hp.out.2
                  have HS6 := Lib.hid hl6.1
                  have HB6 := Lib.hid hl6.2
                  have HKr := Lib.hid hp.out.2
                  have hlt6 : p + (i + 1) < segs bs := by omega
                  clear hcall hp hl6 hc9
                  rw [aggF_0]
                  have z0 := (HB6.out).cell 0
                  have z1 := (HB6.out).cell 1
                  have z2 := (HB6.out).cell 2
                  have z3 := (HB6.out).cell 3
                  have z4 := (HB6.out).cell 4
                  have z5 := (HB6.out).cell 5
                  have z6 := (HB6.out).cell 6
                  have z7 := (HB6.out).cell 7
                  have zf0 := (HB6.out).frozen 0
                  have zf1 := (HB6.out).frozen 1
                  have zf2 := (HB6.out).frozen 2
                  have zf3 := (HB6.out).frozen 3
                  have zf4 := (HB6.out).frozen 4
                  have zf5 := (HB6.out).frozen 5
                  have zf6 := (HB6.out).frozen 6
                  have zf7 := (HB6.out).frozen 7
                  simp only [frameC, List.getElem?_toArray, List.getElem?_cons_zero, List.getElem?_cons_succ] at z0 z1 z2 z3 z4 z5 z6 z7
                  clear x0 x1 x2 x3 x4 x5 x6 x7
                  go_wp2_with fail
                  have HK7 : Hid (Keep (Own.One wo.heap.size) w6 _) := Lib.hid (keep8 (Keep.refl (Own.One wo.heap.size) w6) (.inl rfl) (.int .u8 0) (.int .u8 0) (.int .u8 0) (.int .u8 0) (.int .u8 0) (.int .u8 0) (.int .u8 0) (.int .u8 0))
                  have hfr7 := (HFr.out.rstep HS.out.rcv HKr.out).far (fun a ha => by cases ha; exact Nat.ne_of_lt hbq) HK7.out
                  have hs7 := HS6.out.far HB6.out HBase.out HK7.out
                  have hb7 := blk8 HB6.out (.int .u8 0) (.int .u8 0) (.int .u8 0) (.int .u8 0) (.int .u8 0) (.int .u8 0) (.int .u8 0) (.int .u8 0)
                  go_roundg (m - (i + 1))
                  case measure => rw [HQi.out]; omega
                  case rel => exact ⟨i + 1, cn + 1, false, hilt, rfl, by go_num, by go_num, by omega, rfl, hfr7, .inl ⟨i + 1, la, V6, fun _ => 0, rfl, Nat.le_refl _, (fun _ => by omega), hlt6, hs7, hb7⟩⟩
              · exfalso
                have := HI9.out
                omega
            · have hi9 : (0 : Int) < (i : Int) := by omega
              by_cases hK0 : K = 0
              · have hK9 : ¬ 0 < K := by omega
                clear hK0
                go_wp2_with fail
                by_cases hci2 : c' = i
                · have hci3 := hci2.symm
                  subst hci3
                  rw [HNn.out] at hcN
                  have hcall := feed_next HS.out.rcv HI.out.byte (by have := HL.out; omega) (by omega) hcN
                  rw [← HFf.out] at hcall
                  refine hcall.mono ?_
                  rintro e w6 (⟨hc9, rfl, V6, hp⟩ | ⟨hc9, rfl, V6, hp⟩)
                  · have hl6 := HS.out.laid HBa.out HBase.out hp.out.1 hp.out.2
                    have him1 : i + 1 = m := by have := HMm.out; have := HNn.out; omega
                    rw [him1] at hl6
                    have HS6 := Lib.hid hl6.1
                    have HB6 := Lib.hid hl6.2
                    have HKr := Lib.hid hp.out.2
                    have HHc := Lib.hid hc9
                    clear hcall hp hl6 hc9
                    rw [aggF_ans]
                    have z0 := (HB6.out).cell 0
                    have z1 := (HB6.out).cell 1
                    have z2 := (HB6.out).cell 2
                    have z3 := (HB6.out).cell 3
                    have z4 := (HB6.out).cell 4
                    have z5 := (HB6.out).cell 5
                    have z6 := (HB6.out).cell 6
                    have z7 := (HB6.out).cell 7
                    have zf0 := (HB6.out).frozen 0
                    have zf1 := (HB6.out).frozen 1
                    have zf2 := (HB6.out).frozen 2
                    have zf3 := (HB6.out).frozen 3
                    have zf4 := (HB6.out).frozen 4
                    have zf5 := (HB6.out).frozen 5
                    have zf6 := (HB6.out).frozen 6
                    have zf7 := (HB6.out).frozen 7
                    simp only [frameC, List.getElem?_toArray, List.getElem?_cons_zero, List.getElem?_cons_succ] at z0 z1 z2 z3 z4 z5 z6 z7
                    clear x0 x1 x2 x3 x4 x5 x6 x7
                    go_wp2_with fail
                    have HK7 : Hid (Keep (Own.One wo.heap.size) w6 _) := Lib.hid (keep8 (Keep.refl (Own.One wo.heap.size) w6) (.inl rfl) (.int .u8 162) (.int .u8 m) (.int .u8 k) (.int .u8 0) (.int .u8 0) (.int .u8 0) (.int .u8 0) (.int .u8 0))
                    have hfr7 := (HFr.out.rstep HS.out.rcv HKr.out).far (fun a ha => by cases ha; exact Nat.ne_of_lt hbq) HK7.out
                    have hs7 := HS6.out.far HB6.out HBase.out HK7.out
                    have hb7 := blk8 HB6.out (.int .u8 162) (.int .u8 m) (.int .u8 k) (.int .u8 0) (.int .u8 0) (.int .u8 0) (.int .u8 0) (.int .u8 0)
                    go_roundg (m - (i + 1))
                    case measure => rw [HQi.out]; omega
                    case rel => exact ⟨i + 1, cn + 1, true, hilt, rfl, by go_num, by go_num, by omega, rfl, hfr7, .inr ⟨V6, rfl, him1, by rw [← HNn.out]; omega, hs7, hb7⟩⟩
                  · have hl6 := HS.out.laid HBa.out HBase.out hp.out.1 hp.out.2
                    have HS6 := Lib.hid hl6.1
                    have HB6 := Lib.hid hl6.2
                    have HKr := Lib.hid hp.out.2
                    have hlt6 : p + (i + 1) < segs bs := by omega
                    clear hcall hp hl6 hc9
                    rw [aggF_0]
                    have z0 := (HB6.out).cell 0
                    have z1 := (HB6.out).cell 1
                    have z2 := (HB6.out).cell 2
                    have z3 := (HB6.out).cell 3
                    have z4 := (HB6.out).cell 4
                    have z5 := (HB6.out).cell 5
                    have z6 := (HB6.out).cell 6
                    have z7 := (HB6.out).cell 7
                    have zf0 := (HB6.out).frozen 0
                    have zf1 := (HB6.out).frozen 1
                    have zf2 := (HB6.out).frozen 2
                    have zf3 := (HB6.out).frozen 3
                    have zf4 := (HB6.out).frozen 4
                    have zf5 := (HB6.out).frozen 5
                    have zf6 := (HB6.out).frozen 6
                    have zf7 := (HB6.out).frozen 7
                    simp only [frameC, List.getElem?_toArray, List.getElem?_cons_zero, List.getElem?_cons_succ] at z0 z1 z2 z3 z4 z5 z6 z7
                    clear x0 x1 x2 x3 x4 x5 x6 x7
                    go_wp2_with fail
                    have HK7 : Hid (Keep (Own.One wo.heap.size) w6 _) := Lib.hid (keep8 (Keep.refl (Own.One wo.heap.size) w6) (.inl rfl) (.int .u8 0) (.int .u8 0) (.int .u8 0) (.int .u8 0) (.int .u8 0) (.int .u8 0) (.int .u8 0) (.int .u8 0))
                    have hfr7 := (HFr.out.rstep HS.out.rcv HKr.out).far (fun a ha => by cases ha; exact Nat.ne_of_lt hbq) HK7.out
                    have hs7 := HS6.out.far HB6.out HBase.out HK7.out
                    have hb7 := blk8 HB6.out (.int .u8 0) (.int .u8 0) (.int .u8 0) (.int .u8 0) (.int .u8 0) (.int .u8 0) (.int .u8 0) (.int .u8 0)
                    go_roundg (m - (i + 1))
                    case measure => rw [HQi.out]; omega
                    case rel => exact ⟨i + 1, cn + 1, false, hilt, rfl, by go_num, by go_num, by omega, rfl, hfr7, .inl ⟨i + 1, la, V6, fun _ => 0, rfl, Nat.le_refl _, (fun _ => by omega), hlt6, hs7, hb7⟩⟩
                · have hcall := feed_skip (i := i) HS.out.rcv (by omega) hci2
                  rw [← HFf.out] at hcall
                  refine hcall.mono ?_
                  rintro e w6 ⟨rfl, V6, hp⟩
                  have hl6 := HS.out.laid HBa.out HBase.out hp.out.1 hp.out.2
                  have HS6 := Lib.hid hl6.1
                  have HB6 := Lib.hid hl6.2
                  have HKr := Lib.hid hp.out.2
                  clear hcall hp hl6
                  rw [aggF_0]
                  have z0 := (HB6.out).cell 0
                  have z1 := (HB6.out).cell 1
                  have z2 := (HB6.out).cell 2
                  have z3 := (HB6.out).cell 3
                  have z4 := (HB6.out).cell 4
                  have z5 := (HB6.out).cell 5
                  have z6 := (HB6.out).cell 6
                  have z7 := (HB6.out).cell 7
                  have zf0 := (HB6.out).frozen 0
                  have zf1 := (HB6.out).frozen 1
                  have zf2 := (HB6.out).frozen 2
                  have zf3 := (HB6.out).frozen 3
                  have zf4 := (HB6.out).frozen 4
                  have zf5 := (HB6.out).frozen 5
                  have zf6 := (HB6.out).frozen 6
                  have zf7 := (HB6.out).frozen 7
                  simp only [frameC, List.getElem?_toArray, List.getElem?_cons_zero, List.getElem?_cons_succ] at z0 z1 z2 z3 z4 z5 z6 z7
                  clear x0 x1 x2 x3 x4 x5 x6 x7
                  go_wp2_with fail
                  have HK7 : Hid (Keep (Own.One wo.heap.size) w6 _) := Lib.hid (keep8 (Keep.refl (Own.One wo.heap.size) w6) (.inl rfl) (.int .u8 0) (.int .u8 0) (.int .u8 0) (.int .u8 0) (.int .u8 0) (.int .u8 0) (.int .u8 0) (.int .u8 0))
                  have hfr7 := (HFr.out.rstep HS.out.rcv HKr.out).far (fun a ha => by cases ha; exact Nat.ne_of_lt hbq) HK7.out
                  have hs7 := HS6.out.far HB6.out HBase.out HK7.out
                  have hb7 := blk8 HB6.out (.int .u8 0) (.int .u8 0) (.int .u8 0) (.int .u8 0) (.int .u8 0) (.int .u8 0) (.int .u8 0) (.int .u8 0)
                  go_roundg (m - (i + 1))
                  case measure => rw [HQi.out]; omega
                  case rel => exact ⟨i + 1, cn + 1, false, hilt, rfl, by go_num, by go_num, by omega, rfl, hfr7, .inl ⟨c', la, V6, fun _ => 0, rfl, by omega, (fun _ => by omega), by rw [← HNn.out]; exact hcN, hs7, hb7⟩⟩
              · have hK9 : (0 : Int) < (K : Int) := by omega
                obtain ⟨bl9, hbl9⟩ : ∃ b, ls[(cn + 1) % K]? = some b := ⟨_, List.getElem?_eq_getElem (by rw [← HKl.out]; exact Nat.mod_lt _ (by omega))⟩
                obtain ⟨bB, oB, rfl, hbB, hzB⟩ := HB.out ((cn + 1) % K) (.bool bl9) (by rw [List.getElem?_map, hbl9]; rfl)
                have xB := (HS.out.keep.cell (p := ⟨bB, oB + (cn + 1) % K, none⟩) hbB id).trans hzB
                obtain ⟨jm, hjm⟩ : ∃ jm, jm = (cn + 1) % K := ⟨_, rfl⟩
                have hjK : jm < K := by rw [hjm]; exact Nat.mod_lt _ (by omega)
                have hjm2 : ((cn : Int) + 1).tmod (K : Int) = (jm : Int) := by
                  rw [Int.tmod_eq_emod_of_nonneg (by omega), hjm]
                  simp
                rw [← hjm] at xB
                have HJm := Lib.hid hjm
                clear hjm hzB hbl9
                cases bl9 with
                | true =>
                  go_wp2_with fail
                  go_roundg (m - (i + 1))
                  case measure => rw [HQi.out]; omega
                  case rel => exact ⟨i + 1, cn + 1, false, hilt, rfl, by go_num, by go_num, by omega, rfl, HFr.out, .inl ⟨c', la, V, G, rfl, by omega, (fun _ => hc0 (by omega)), by rw [← HNn.out]; exact hcN, HS.out, HBa.out⟩⟩
                | false =>
                  go_wp2_with fail
                  by_cases hci2 : c' = i
                  · have hci3 := hci2.symm
                    subst hci3
                    rw [HNn.out] at hcN
                    have hcall := feed_next HS.out.rcv HI.out.byte (by have := HL.out; omega) (by omega) hcN
                    rw [← HFf.out] at hcall
                    refine hcall.mono ?_
                    rintro e w6 (⟨hc9, rfl, V6, hp⟩ | ⟨hc9, rfl, V6, hp⟩)
                    · have hl6 := HS.out.laid HBa.out HBase.out hp.out.1 hp.out.2
                      have him1 : i + 1 = m := by have := HMm.out; have := HNn.out; omega
                      rw [him1] at hl6
                      have HS6 := Lib.hid hl6.1
                      have HB6 := Lib.hid hl6.2
                      have HKr := Lib.hid hp.out.2
                      have HHc := Lib.hid hc9
                      clear hcall hp hl6 hc9
                      rw [aggF_ans]
                      have z0 := (HB6.out).cell 0
                      have z1 := (HB6.out).cell 1
                      have z2 := (HB6.out).cell 2
                      have z3 := (HB6.out).cell 3
                      have z4 := (HB6.out).cell 4
                      have z5 := (HB6.out).cell 5
                      have z6 := (HB6.out).cell 6
                      have z7 := (HB6.out).cell 7
                      have zf0 := (HB6.out).frozen 0
                      have zf1 := (HB6.out).frozen 1
                      have zf2 := (HB6.out).frozen 2
                      have zf3 := (HB6.out).frozen 3
                      have zf4 := (HB6.out).frozen 4
                      have zf5 := (HB6.out).frozen 5
                      have zf6 := (HB6.out).frozen 6
                      have zf7 := (HB6.out).frozen 7
                      simp only [frameC, List.getElem?_toArray, List.getElem?_cons_zero, List.getElem?_cons_succ] at z0 z1 z2 z3 z4 z5 z6 z7
                      clear x0 x1 x2 x3 x4 x5 x6 x7
                      go_wp2_with fail
                      have HK7 : Hid (Keep (Own.One wo.heap.size) w6 _) := Lib.hid (keep8 (Keep.refl (Own.One wo.heap.size) w6) (.inl rfl) (.int .u8 162) (.int .u8 m) (.int .u8 k) (.int .u8 0) (.int .u8 0) (.int .u8 0) (.int .u8 0) (.int .u8 0))
                      have hfr7 := (HFr.out.rstep HS.out.rcv HKr.out).far (fun a ha => by cases ha; exact Nat.ne_of_lt hbq) HK7.out
                      have hs7 := HS6.out.far HB6.out HBase.out HK7.out
                      have hb7 := blk8 HB6.out (.int .u8 162) (.int .u8 m) (.int .u8 k) (.int .u8 0) (.int .u8 0) (.int .u8 0) (.int .u8 0) (.int .u8 0)
                      go_roundg (m - (i + 1))
                      case measure => rw [HQi.out]; omega
                      case rel => exact ⟨i + 1, cn + 1, true, hilt, rfl, by go_num, by go_num, by omega, rfl, hfr7, .inr ⟨V6, rfl, him1, by rw [← HNn.out]; omega, hs7, hb7⟩⟩
                    · have hl6 := HS.out.laid HBa.out HBase.out hp.out.1 hp.out.2
                      have HS6 := Lib.hid hl6.1
                      have HB6 := Lib.hid hl6.2
                      have HKr := Lib.hid hp.out.2
                      have hlt6 : p + (i + 1) < segs bs := by omega
                      clear hcall hp hl6 hc9
                      rw [aggF_0]
                      have z0 := (HB6.out).cell 0
                      have z1 := (HB6.out).cell 1
                      have z2 := (HB6.out).cell 2
                      have z3 := (HB6.out).cell 3
                      have z4 := (HB6.out).cell 4
                      have z5 := (HB6.out).cell 5
                      have z6 := (HB6.out).cell 6
                      have z7 := (HB6.out).cell 7
                      have zf0 := (HB6.out).frozen 0
                      have zf1 := (HB6.out).frozen 1
                      have zf2 := (HB6.out).frozen 2
                      have zf3 := (HB6.out).frozen 3
                      have zf4 := (HB6.out).frozen 4
                      have zf5 := (HB6.out).frozen 5
                      have zf6 := (HB6.out).frozen 6
                      have zf7 := (HB6.out).frozen 7
                      simp only [frameC, List.getElem?_toArray, List.getElem?_cons_zero, List.getElem?_cons_succ] at z0 z1 z2 z3 z4 z5 z6 z7
                      clear x0 x1 x2 x3 x4 x5 x6 x7
                      go_wp2_with fail
                      have HK7 : Hid (Keep (Own.One wo.heap.size) w6 _) := Lib.hid (keep8 (Keep.refl (Own.One wo.heap.size) w6) (.inl rfl) (.int .u8 0) (.int .u8 0) (.int .u8 0) (.int .u8 0) (.int .u8 0) (.int .u8 0) (.int .u8 0) (.int .u8 0))
                      have hfr7 := (HFr.out.rstep HS.out.rcv HKr.out).far (fun a ha => by cases ha; exact Nat.ne_of_lt hbq) HK7.out
                      have hs7 := HS6.out.far HB6.out HBase.out HK7.out
                      have hb7 := blk8 HB6.out (.int .u8 0) (.int .u8 0) (.int .u8 0) (.int .u8 0) (.int .u8 0) (.int .u8 0) (.int .u8 0) (.int .u8 0)
                      go_roundg (m - (i + 1))
                      case measure => rw [HQi.out]; omega
                      case rel => exact ⟨i + 1, cn + 1, false, hilt, rfl, by go_num, by go_num, by omega, rfl, hfr7, .inl ⟨i + 1, la, V6, fun _ => 0, rfl, Nat.le_refl _, (fun _ => by omega), hlt6, hs7, hb7⟩⟩
                  · have hcall := feed_skip (i := i) HS.out.rcv (by omega) hci2
                    rw [← HFf.out] at hcall
                    refine hcall.mono ?_
                    rintro e w6 ⟨rfl, V6, hp⟩
                    have hl6 := HS.out.laid HBa.out HBase.out hp.out.1 hp.out.2
                    have HS6 := Lib.hid hl6.1
                    have HB6 := Lib.hid hl6.2
                    have HKr := Lib.hid hp.out.2
                    clear hcall hp hl6
                    rw [aggF_0]
                    have z0 := (HB6.out).cell 0
                    have z1 := (HB6.out).cell 1
                    have z2 := (HB6.out).cell 2
                    have z3 := (HB6.out).cell 3
                    have z4 := (HB6.out).cell 4
                    have z5 := (HB6.out).cell 5
                    have z6 := (HB6.out).cell 6
                    have z7 := (HB6.out).cell 7
                    have zf0 := (HB6.out).frozen 0
                    have zf1 := (HB6.out).frozen 1
                    have zf2 := (HB6.out).frozen 2
                    have zf3 := (HB6.out).frozen 3
                    have zf4 := (HB6.out).frozen 4
                    have zf5 := (HB6.out).frozen 5
                    have zf6 := (HB6.out).frozen 6
                    have zf7 := (HB6.out).frozen 7
                    simp only [frameC, List.getElem?_toArray, List.getElem?_cons_zero, List.getElem?_cons_succ] at z0 z1 z2 z3 z4 z5 z6 z7
                    clear x0 x1 x2 x3 x4 x5 x6 x7
                    go_wp2_with fail
                    have HK7 : Hid (Keep (Own.One wo.heap.size) w6 _) := Lib.hid (keep8 (Keep.refl (Own.One wo.heap.size) w6) (.inl rfl) (.int .u8 0) (.int .u8 0) (.int .u8 0) (.int .u8 0) (.int .u8 0) (.int .u8 0) (.int .u8 0) (.int .u8 0))
                    have hfr7 := (HFr.out.rstep HS.out.rcv HKr.out).far (fun a ha => by cases ha; exact Nat.ne_of_lt hbq) HK7.out
                    have hs7 := HS6.out.far HB6.out HBase.out HK7.out
                    have hb7 := blk8 HB6.out (.int .u8 0) (.int .u8 0) (.int .u8 0) (.int .u8 0) (.int .u8 0) (.int .u8 0) (.int .u8 0) (.int .u8 0)
                    go_roundg (m - (i + 1))
                    case measure => rw [HQi.out]; omega
                    case rel => exact ⟨i + 1, cn + 1, false, hilt, rfl, by go_num, by go_num, by omega, rfl, hfr7, .inl ⟨c', la, V6, fun _ => 0, rfl, by omega, (fun _ => by omega), by rw [← HNn.out]; exact hcN, hs7, hb7⟩⟩
          · omega
        · have him2 : m = i := by omega
          subst him2
          have hnl : ¬ (m : Int) < (m : Int) := by omega
          rcases hwi with ⟨c', la, V, G, rfl, hci, hc0, hcN, hs, hba⟩ | ⟨V, rfl, _, h2, hs, hba⟩
          · have HS := Lib.hid hs
            have HBa := Lib.hid hba
            have HC0 := Lib.hid (show 0 < c' from hc0 (by omega))
            have HCN := Lib.hid hcN
            have HCi := Lib.hid hci
            clear hs hba hc0 hcN hci
            go_wp2_with fail
            refine (Ask_0 HS.out.rcv rfl).mono ?_
            rintro e w6 ⟨rfl, hp⟩
            have hl6 := HS.out.laid HBa.out HBase.out hp.out.1 (hp.out.2.mono (fun k hk => .inl hk))
            have HS6 : Hid (Sess w w6 gs gr w1.heap.size (sndAt A1 c1 bs p m false) (rAt k (p + c') 0 bs (ansF c' k) V)) := Lib.hid hl6.1
            have HB6 := Lib.hid hl6.2
            have HKr := Lib.hid hp.out.2
            clear hp hl6
            rw [aggF_ans]
            have z0 := (HB6.out).cell 0
            have z1 := (HB6.out).cell 1
            have z2 := (HB6.out).cell 2
            have z3 := (HB6.out).cell 3
            have z4 := (HB6.out).cell 4
            have z5 := (HB6.out).cell 5
            have z6 := (HB6.out).cell 6
            have z7 := (HB6.out).cell 7
            have zf0 := (HB6.out).frozen 0
            have zf1 := (HB6.out).frozen 1
            have zf2 := (HB6.out).frozen 2
            have zf3 := (HB6.out).frozen 3
            have zf4 := (HB6.out).frozen 4
            have zf5 := (HB6.out).frozen 5
            have zf6 := (HB6.out).frozen 6
            have zf7 := (HB6.out).frozen 7
            simp only [frameC, List.getElem?_toArray, List.getElem?_cons_zero, List.getElem?_cons_succ] at z0 z1 z2 z3 z4 z5 z6 z7
            have HK7 : Hid (Keep (Own.One wo.heap.size) w6 _) := Lib.hid (keep8 (Keep.refl (Own.One wo.heap.size) w6) (.inl rfl) (.int .u8 162) (.int .u8 c') (.int .u8 k) (.int .u8 0) (.int .u8 0) (.int .u8 0) (.int .u8 0) (.int .u8 0))
            have HS7 := Lib.hid (HS6.out.far HB6.out HBase.out HK7.out)
            have HC127 : Hid (c' ≤ 127) := Lib.hid (by have := HCi.out; omega)
            go_wp2_with fail
            refine (Feed_more (HS7.out).snd rfl rfl rfl c' k 0 0 0 0 0 HCi.out HC127.out k0 k1 HCN.out _ rfl).mono ?_
            rintro e w8 ⟨A8, c8, rfl, hp8⟩
            have HS8 := Lib.hid ((HS7.out).sstep hp8.out.1 rfl hp8.out.2.2)
            have HF8 := Lib.hid (own_mono hp8.out.2.1 (HS7.out).keep.size)
            clear hp8 z0 z1 z2 z3 z4 z5 z6 z7 zf0 zf1 zf2 zf3 zf4 zf5 zf6 zf7
            obtain ⟨m8, hm8⟩ : ∃ m8, m8 = min k (segs bs - (p + c')) := ⟨_, rfl⟩
            have HM8 := Lib.hid hm8
            have HS8b : Hid (Sess w w8 gs gr w1.heap.size (sndAt A1 c1 bs (p + c') m8 false) (rAt k (p + c') 0 bs (ansF c' k) V)) := Lib.hid (by rw [hm8]; exact HS8.out)
            have HF8b : Hid (FrAt w8 w.heap.size A8 m8 c8 (framesF bs (p + c') m8)) := Lib.hid (by rw [hm8]; exact HF8.out)
            rw [show (sndAt A1 c1 bs p m false).at' = p from rfl, show (sndAt A1 c1 bs p m false).bs = bs from rfl, ← hm8]
            clear HS8 HF8 hm8
            go_wp2_with fail
            refine (SDone_is HS8b.out.snd).mono ?_
            rintro e w9 ⟨rfl, hk9⟩
            have HS9 := Lib.hid (HS8b.out.new hk9.out)
            have HF9 := Lib.hid (HF8b.out.new hk9.out)
            clear hk9
            go_wp2_with fail
            go_roundg (12000 - (bl + 1))
            case measure => rw [HQ.out]; omega
            case rel => exact ⟨bl + 1, A8, c8, m8, cn, p + c', rfl, by omega, by have := HCN.out; have := HC0.out; omega, by go_num, by go_num, by omega, rfl, .inl ⟨⟨ansF c' k, V, HS9.out, HF9.out, HCN.out⟩, by have := HC0.out; omega, HM8.out⟩⟩
          · have HS := Lib.hid hs
            have HBa : Hid (Blk wr wo.heap.size #[.int .u8 162, .int .u8 m, .int .u8 k, .int .u8 0, .int .u8 0, .int .u8 0, .int .u8 0, .int .u8 0] 30) := Lib.hid hba
            have HH2 := Lib.hid h2
            have HCi : Hid (m ≤ m) := Lib.hid (Nat.le_refl _)
            have HC0 : Hid (0 < m) := Lib.hid (by omega)
            have HC127 : Hid (m ≤ 127) := Lib.hid (by omega)
            clear hs hba h2
            have z0 := (HBa.out).cell 0
            have z1 := (HBa.out).cell 1
            have z2 := (HBa.out).cell 2
            have z3 := (HBa.out).cell 3
            have z4 := (HBa.out).cell 4
            have z5 := (HBa.out).cell 5
            have z6 := (HBa.out).cell 6
            have z7 := (HBa.out).cell 7
            have zf0 := (HBa.out).frozen 0
            have zf1 := (HBa.out).frozen 1
            have zf2 := (HBa.out).frozen 2
            have zf3 := (HBa.out).frozen 3
            have zf4 := (HBa.out).frozen 4
            have zf5 := (HBa.out).frozen 5
            have zf6 := (HBa.out).frozen 6
            have zf7 := (HBa.out).frozen 7
            simp only [List.getElem?_toArray, List.getElem?_cons_zero, List.getElem?_cons_succ] at z0 z1 z2 z3 z4 z5 z6 z7
            by_cases hpm : p + m < segs bs
            · have HCN := Lib.hid hpm
              have HS7 : Hid (Sess w wr gs gr w1.heap.size (sndAt A1 c1 bs p m false) (rAt k (p + m) 0 bs (ansF m k) V)) := Lib.hid (by
                have h := HS.out
                unfold rAns at h
                rw [if_neg (by omega)] at h
                exact h)
              clear hpm
              go_wp2_with fail
              refine (Feed_more (HS7.out).snd rfl rfl rfl m k 0 0 0 0 0 HCi.out HC127.out k0 k1 HCN.out _ rfl).mono ?_
              rintro e w8 ⟨A8, c8, rfl, hp8⟩
              have HS8 := Lib.hid ((HS7.out).sstep hp8.out.1 rfl hp8.out.2.2)
              have HF8 := Lib.hid (own_mono hp8.out.2.1 (HS7.out).keep.size)
              clear hp8 z0 z1 z2 z3 z4 z5 z6 z7 zf0 zf1 zf2 zf3 zf4 zf5 zf6 zf7
              obtain ⟨m8, hm8⟩ : ∃ m8, m8 = min k (segs bs - (p + m)) := ⟨_, rfl⟩
              have HM8 := Lib.hid hm8
              have HS8b : Hid (Sess w w8 gs gr w1.heap.size (sndAt A1 c1 bs (p + m) m8 false) (rAt k (p + m) 0 bs (ansF m k) V)) := Lib.hid (by rw [hm8]; exact HS8.out)
              have HF8b : Hid (FrAt w8 w.heap.size A8 m8 c8 (framesF bs (p + m) m8)) := Lib.hid (by rw [hm8]; exact HF8.out)
              rw [show (sndAt A1 c1 bs p m false).at' = p from rfl, show (sndAt A1 c1 bs p m false).bs = bs from rfl, ← hm8]
              clear HS8 HF8 hm8
              go_wp2_with fail
              refine (SDone_is HS8b.out.snd).mono ?_
              rintro e w9 ⟨rfl, hk9⟩
              have HS9 := Lib.hid (HS8b.out.new hk9.out)
              have HF9 := Lib.hid (HF8b.out.new hk9.out)
              clear hk9
              go_wp2_with fail
              go_roundg (12000 - (bl + 1))
              case measure => rw [HQ.out]; omega
              case rel => exact ⟨bl + 1, A8, c8, m8, cn, p + m, rfl, by omega, by have := HCN.out; have := HC0.out; omega, by go_num, by go_num, by omega, rfl, .inl ⟨⟨ansF m k, V, HS9.out, HF9.out, HCN.out⟩, by have := HC0.out; omega, HM8.out⟩⟩
            · have HE : Hid (p + m = segs bs) := Lib.hid (by have := HH2.out; omega)
              have HS7 : Hid (Sess w wr gs gr w1.heap.size (sndAt A1 c1 bs p m false) ⟨k, 1, 0, ansF m k, V, pads bs (segs bs), 0⟩) := Lib.hid (by
                have h := HS.out
                unfold rAns at h
                rw [if_pos HE.out, HE.out] at h
                exact h)
              clear hpm
              go_wp2_with fail
              refine (Feed_end HS7.out.snd rfl rfl rfl m k 0 0 0 0 0 (Nat.le_refl _) HC127.out k0 k1 HE.out).mono ?_
              rintro e w8 ⟨A8, c8, rfl, hp8⟩
              have HS8 := Lib.hid (HS7.out.sstep hp8.out.1 rfl hp8.out.2.2)
              have HF8 : Hid (FrAt w8 w.heap.size A8 1 c8 [endF bs]) := Lib.hid (own_mono hp8.out.2.1 HS7.out.keep.size)
              clear hp8 z0 z1 z2 z3 z4 z5 z6 z7 zf0 zf1 zf2 zf3 zf4 zf5 zf6 zf7
              go_wp2_with fail
              refine (SDone_is HS8.out.snd).mono ?_
              rintro e w9 ⟨rfl, hk9⟩
              have HS9 : Hid (Sess w w9 gs gr w1.heap.size (sndAt A1 c1 bs (segs bs) m true) ⟨k, 1, 0, ansF m k, V, pads bs (segs bs), 0⟩) := Lib.hid (by
                have h := HS8.out.new hk9.out
                unfold sndAt at h
                simp only [HE.out] at h
                exact h)
              have HF9 := Lib.hid (HF8.out.new hk9.out)
              clear hk9
              go_wp2_with fail
              go_roundg (12000 - (bl + 1))
              case measure => rw [HQ.out]; omega
              case rel => exact ⟨bl + 1, A8, c8, 1, cn, p, rfl, by omega, by rw [← HNn.out]; omega, by go_num, by go_num, by omega, rfl, .inr ⟨ansF m k, V, m, rfl, HS9.out, HF9.out⟩⟩
    · obtain ⟨la0, V0, mm, rfl, hs0, hf0⟩ := hst
      obtain ⟨bq, oq, rfl, hbq, _⟩ := fr_at (j := 0) (f := endF bs) hf0.row rfl
      have HS0 := Lib.hid hs0
      have HF0 := Lib.hid hf0
      have HBase : Hid (w1.heap.size ≤ wo.heap.size) := Lib.hid hs0.rcv.bs
      clear hs0 hf0
      go_wp2_with fail
      go_loopg [14, 17, 18] 1 (fun q s14 s17 s18 wi => ∃ i cnt is, i ≤ 1 ∧ q = 1 - i ∧ s18 = .int .i64 (i : Nat) ∧ s14 = .int .i64 (cnt : Nat) ∧ cnt ≤ 127 * bl + i ∧ s17 = .bool is ∧ FrAt wi w.heap.size (some ⟨bq, oq, none⟩) 1 c [endF bs] ∧ ((i = 0 ∧ is = false ∧ Sess w wi gs gr w1.heap.size (sndAt A1 c1 bs (segs bs) mm true) ⟨k, 1, 0, la0, V0, pads bs (segs bs), 0⟩ ∧ Blk wi wo.heap.size (frameC fun _ => 0) 30) ∨ (i = 1 ∧ is = true ∧ ∃ V, Sess w wi gs gr w1.heap.size (sndAt A1 c1 bs (segs bs) mm true) ⟨k, 2, 0, la0, V, bs, 0⟩ ∧ Blk wi wo.heap.size #[.int .u8 161, .int .u8 0, .int .u8 0, .int .u8 0, .int .u8 0, .int .u8 0, .int .u8 0, .int .u8 0] 30)))
      case atStart => exact ⟨0, cnt, false, by omega, rfl, rfl, rfl, hcnt, rfl, HF0.out.new ((Keep.refl Own.Zero wo).alloc _), .inl ⟨rfl, rfl, HS0.out.new ((Keep.refl Own.Zero wo).alloc _), Blk.new wo _ _⟩⟩
      case round =>
        obtain ⟨i, cn, is, him, hqi, rfl, rfl, hcn, rfl, hfr, hwi⟩ := hrel
        have HQi := Lib.hid hqi
        have HFr := Lib.hid hfr
        clear hqi hfr
        rcases hwi with ⟨hi0, rfl, hs, hba⟩ | ⟨hi0, rfl, V, hs, hba⟩
        · have hi1 : (i : Int) < 1 := by omega
          have hi9 : ¬ 0 < i := by omega
          have HS := Lib.hid hs
          have HBa := Lib.hid hba
          obtain ⟨F, hF⟩ : ∃ F, F = endF bs := ⟨_, rfl⟩
          have HFf := Lib.hid hF
          obtain ⟨b', o', hb', _, hz⟩ := fr_at (j := i) (f := endF bs) HFr.out.row (by rw [hi0]; rfl)
          cases hb'
          rw [← hF] at hz
          have x0 := hz 0 (by omega)
          have x1 := hz 1 (by omega)
          have x2 := hz 2 (by omega)
          have x3 := hz 3 (by omega)
          have x4 := hz 4 (by omega)
          have x5 := hz 5 (by omega)
          have x6 := hz 6 (by omega)
          have x7 := hz 7 (by omega)
          simp only [← Nat.add_assoc, Nat.add_zero] at x0 x1 x2 x3 x4 x5 x6 x7
          have HI0 := Lib.hid hi0
          clear hs hba hF hz hi0
          go_wp2_with fail
          have hcall := feed_end HS.out.rcv HI.out.byte (by have := HL.out; omega)
          rw [← HFf.out] at hcall
          refine hcall.mono ?_
          rintro e w6 ⟨rfl, V6, hp⟩
          have hl6 := HS.out.laid HBa.out HBase.out hp.out.1 hp.out.2
          have HS6 := Lib.hid hl6.1
          have HB6 := Lib.hid hl6.2
          have HKr := Lib.hid hp.out.2
          clear hcall hp hl6 x0 x1 x2 x3 x4 x5 x6 x7
          rw [show aggF (fun k => if k = 0 then 161 else 0) = .agg #[.int .u8 161, .int .u8 0, .int .u8 0, .int .u8 0, .int .u8 0, .int .u8 0, .int .u8 0, .int .u8 0] from rfl]
          have z0 := (HB6.out).cell 0
          have z1 := (HB6.out).cell 1
          have z2 := (HB6.out).cell 2
          have z3 := (HB6.out).cell 3
          have z4 := (HB6.out).cell 4
          have z5 := (HB6.out).cell 5
          have z6 := (HB6.out).cell 6
          have z7 := (HB6.out).cell 7
          have zf0 := (HB6.out).frozen 0
          have zf1 := (HB6.out).frozen 1
          have zf2 := (HB6.out).frozen 2
          have zf3 := (HB6.out).frozen 3
          have zf4 := (HB6.out).frozen 4
          have zf5 := (HB6.out).frozen 5
          have zf6 := (HB6.out).frozen 6
          have zf7 := (HB6.out).frozen 7
          simp only [frameC, List.getElem?_toArray, List.getElem?_cons_zero, List.getElem?_cons_succ] at z0 z1 z2 z3 z4 z5 z6 z7
          go_wp2_with fail
          have HK7 : Hid (Keep (Own.One wo.heap.size) w6 _) := Lib.hid (keep8 (Keep.refl (Own.One wo.heap.size) w6) (.inl rfl) (.int .u8 161) (.int .u8 0) (.int .u8 0) (.int .u8 0) (.int .u8 0) (.int .u8 0) (.int .u8 0) (.int .u8 0))
          have hfr7 := (HFr.out.rstep HS.out.rcv HKr.out).far (fun a ha => by cases ha; exact Nat.ne_of_lt hbq) HK7.out
          have hs7 := HS6.out.far HB6.out HBase.out HK7.out
          have hb7 := blk8 HB6.out (.int .u8 161) (.int .u8 0) (.int .u8 0) (.int .u8 0) (.int .u8 0) (.int .u8 0) (.int .u8 0) (.int .u8 0)
          go_roundg (1 - (i + 1))
          case measure => rw [HQi.out]; have := HI0.out; omega
          case rel => exact ⟨i + 1, cn + 1, true, by have := HI0.out; omega, rfl, by go_num, by go_num, by omega, rfl, hfr7, .inr ⟨by rw [HI0.out], rfl, V6, hs7, hb7⟩⟩
        · have hnl : ¬ (i : Int) < 1 := by omega
          have HS := Lib.hid hs
          have HBa := Lib.hid hba
          clear hs hba hi0
          have z0 := (HBa.out).cell 0
          have z1 := (HBa.out).cell 1
          have z2 := (HBa.out).cell 2
          have z3 := (HBa.out).cell 3
          have z4 := (HBa.out).cell 4
          have z5 := (HBa.out).cell 5
          have z6 := (HBa.out).cell 6
          have z7 := (HBa.out).cell 7
          have zf0 := (HBa.out).frozen 0
          have zf1 := (HBa.out).frozen 1
          have zf2 := (HBa.out).frozen 2
          have zf3 := (HBa.out).frozen 3
          have zf4 := (HBa.out).frozen 4
          have zf5 := (HBa.out).frozen 5
          have zf6 := (HBa.out).frozen 6
          have zf7 := (HBa.out).frozen 7
          simp only [List.getElem?_toArray, List.getElem?_cons_zero, List.getElem?_cons_succ] at z0 z1 z2 z3 z4 z5 z6 z7
          go_wp2_with fail
          refine (Feed_taken HS.out.snd rfl rfl rfl 0 0 0 0 0 0 0).mono ?_
          rintro e w8 ⟨rfl, hp8⟩
          have HS8 := Lib.hid (HS.out.sstep hp8.out.1 rfl hp8.out.2)
          clear hp8 z0 z1 z2 z3 z4 z5 z6 z7 zf0 zf1 zf2 zf3 zf4 zf5 zf6 zf7
          go_wp2_with fail
          refine (SDone_is HS8.out.snd).mono ?_
          rintro e w9 ⟨rfl, hk9⟩
          have HS9 := Lib.hid (HS8.out.new hk9.out)
          clear hk9
          rw [show (sndAt A1 c1 bs (segs bs) mm true).code = 0 from rfl]
          go_wp2_with fail
          refine (RDone_over HS9.out.rcv rfl).mono ?_
          rintro e w10 ⟨A10, c10, rfl, hp10⟩
          have HGot := Lib.hid hp10.out.1
          have HK10 : Hid (Keep Own.Zero w w10) := Lib.hid (HS9.out.keep.trans hp10.out.2 (fun _ h => h.elim))
          have HB10 : Hid (Row w10 A (ints .u8 bs)) := Lib.hid (HI.out.row.keep HK10.out (fun _ _ _ => id))
          clear hp10
          have hs1 : ∀ m, Sem.run Try.prog (convert 22 9 (.slice A10 n c10)) (w10.drewN m) = .ok (.string (str bs)) (w10.drewN m) := fun m => run_str under22 under5 under9 (HGot.out.row.keep ((Keep.refl Own.Zero w10).drewN m) (fun _ _ _ => id)) n HN.out
          have hs2 : ∀ m, Sem.run Try.prog (convert 22 9 (.slice A n cA)) (w10.drewN m) = .ok (.string (str bs)) (w10.drewN m) := fun m => run_str under22 under5 under9 (HB10.out.keep ((Keep.refl Own.Zero w10).drewN m) (fun _ _ _ => id)) n HN.out
          have hwb : IntKind.i64.wrap ((bl : Int) - 1) = ((bl - 1 : Nat) : Int) := by rw [IntWalk.i64_in _ (by omega)]; omega
          rw [show (⟨k, 2, 0, la0, V, bs, 0⟩ : Rcv).xs = bs from rfl, show (⟨k, 2, 0, la0, V, bs, 0⟩ : Rcv).code = 0 from rfl, ← HN.out]
          go_wp2_with fail
          go_quiet (fail)
          go_wp2_with fail
          go_ret2
          exact ⟨bl - 1, by go_num, by rw [← HNn.out]; omega, Lib.hid (HK10.out.drewN _)⟩
end Go.Proofs.Ytdmomhbimhggiaa.Block
