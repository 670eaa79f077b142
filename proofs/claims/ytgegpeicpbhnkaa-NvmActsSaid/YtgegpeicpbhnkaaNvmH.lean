/- The walk of a half's puts. -/
import Derived.Test.YtgegpeicpbhnkaaNvmG
import Derived.Deep.RegionLaw
namespace Go.Proofs.Ytgegpeicpbhnkaa.Nvm
open Go.RowKit Go.Proofs.Ytgegpeicpbhnkaa.Own Go.Proofs.Ytgegpeicpbhnkaa.Crc
structure Src (w : World) (g pg : Nat) (A : Option Addr) (c : Nat) (xs : List Int) : Prop where
  row : Row w A (ints .u8 xs)
  le : xs.length ≤ c
  nil : A = none → c = 0
  far : ∀ a, A = some a → ¬ Chp g pg a.block
theorem Src.keep {S : Nat → Prop} {w w1 : World} {g pg : Nat} {A : Option Addr} {c : Nat} {xs : List Int} (h : Src w g pg A c xs) (k : Keep S w w1) (hs : ∀ i, S i → Chp g pg i) : Src w1 g pg A c xs :=
  ⟨h.row.keep k (fun a ha _ e => h.far a ha (hs _ e)), h.le, h.nil, h.far⟩
theorem head_f (c n : Int) (c0 : 0 ≤ c) (c1 : c ≤ 65535) (n0 : 0 ≤ n) (w : World) :
    Calls Try.prog 33 #[.int .i64 c, .int .i64 n] w fun e w' => ∃ h, e = .returned (.slice (some ⟨h, 0, none⟩) 6 6) ∧ Hid (Blk w' h (ints .u8 (headL c n)).toArray 5) ∧ Hid (Keep Zero w w') ∧ Hid (w.heap.size ≤ h) := by
  refine (head_any c n c0 c1 n0 w).mono ?_
  rintro e w' ⟨rfl, rfl⟩
  exact ⟨_, rfl, Blk.new w _ _, (Keep.refl Zero w).alloc _, Nat.le_refl _⟩
theorem Write_h {w : World} {g : Nat} {c : Ch} (h : IsCh w g c) (k : Int) (b : Nat → Int) (hb : ∀ i, 0 ≤ b i ∧ b i ≤ 255) (pg : Nat) (hpg : c.pg = pg) (r : Bool) (c2 : Ch) (hr : c.write k b = (r, c2)) :
    Calls Try.prog 24 #[.pointer (some ⟨g, 0, none⟩), .int .i64 k, .agg #[.int .u8 (b 0), .int .u8 (b 1), .int .u8 (b 2), .int .u8 (b 3), .int .u8 (b 4), .int .u8 (b 5), .int .u8 (b 6), .int .u8 (b 7)]] w fun e w' => e = .returned (.bool r) ∧ Hid (IsCh w' g c2 ∧ Keep (Chp g pg) w w') := by
  refine (Write_any h k b hb).mono ?_
  rintro e w' ⟨he, h1, h2⟩
  have h3 := c.write_pg k b
  rw [hr] at he h1 h2 h3
  simp only at he h1 h2 h3
  rw [h3, hpg] at h2
  exact ⟨he, h1, h2⟩
set_option maxRecDepth 100000 in
set_option maxHeartbeats 8000000 in
theorem puts_any {w : World} {g : Nat} {c : Ch} (h : IsCh w g c) (f m : Nat) (hm : 1 ≤ m) (hf : f + m ≤ c.n) (cnt : Int) (k0 : 0 ≤ cnt) (k1 : cnt ≤ 65535) (A : Option Addr) (d : Nat) (xs : List Int) (hx : Src w g c.pg A d xs) (hb : ∀ x ∈ xs, 0 ≤ x ∧ x ≤ 255) (hl : xs.length ≤ 8 * (m - 1)) :
    Calls Try.prog 22 #[halfV g f m, .int .i64 cnt, .slice A xs.length d] w (WrPost w g (putsF c f cnt xs)) := by
  unfold halfV
  have H := Lib.hid h
  have HX := Lib.hid hx
  have HB := Lib.hid hb
  have n1 := h.n1
  obtain ⟨n, hn⟩ : ∃ n, n = xs.length := ⟨_, rfl⟩
  have HN := Lib.hid hn
  have hl2 : n ≤ 8 * (m - 1) := by omega
  rw [← hn]
  clear h hx hb hl hn
  obtain ⟨b1, c1, hw1⟩ : ∃ b1 c1, c.write f (fun _ => 0) = (b1, c1) := ⟨_, _, rfl⟩
  have HW1 := Lib.hid hw1
  clear hw1
  have HP1 : Hid (c1.pg = c.pg ∧ c1.n = c.n) := Lib.hid (by
    have h1 := c.write_pg f (fun _ => 0)
    have h2 := c.write_n f (fun _ => 0)
    rw [HW1.out] at h1 h2
    exact ⟨h1, h2⟩)
  go_enter Try.func22, Try.ntmps22
  go_wp2_with fail
  refine (Write_any (H.out.keep ((Keep.refl Zero w).alloc (.cells #[.pointer (some ⟨g, 0, none⟩), .int .i64 f, .int .i64 m] 55)) id id) f (fun _ => 0) (fun _ => ⟨Int.le_refl _, by decide⟩)).mono ?_
  rintro e w2 hp
  rw [HW1.out] at hp
  obtain ⟨he, h2, hk2⟩ := hp
  have he2 : e = .returned (.bool b1) := he
  subst he2
  clear he
  have H2 : Hid (IsCh w2 g c1) := Lib.hid h2
  have hk2' : Keep (Chp g c.pg) (w.alloc (.cells #[.pointer (some ⟨g, 0, none⟩), .int .i64 f, .int .i64 m] 55)) w2 := by
    have := hk2
    simp only [HP1.out.1] at this
    exact this
  have HB0 : Hid (Blk w2 w.heap.size #[.pointer (some ⟨g, 0, none⟩), .int .i64 f, .int .i64 m] 55) := Lib.hid ((Blk.new w _ _).keep hk2' (fun e => by have h1 := H.out.chip.lt; have h2 := H.out.pages.lt; rcases e with e | e <;> omega))
  have HK2 : Hid (Keep (Chp g c.pg) w w2) := Lib.hid (((Keep.refl (Chp g c.pg) w).alloc _).trans hk2' (fun i hi => .inl hi))
  have HX2 := Lib.hid (HX.out.keep HK2.out (fun i hi => hi))
  clear h2 hk2 hk2'
  cases b1 with
  | false =>
    have HF : Hid (putsF c f cnt xs = (false, c1)) := Lib.hid (by unfold putsF; rw [HW1.out]; rfl)
    go_wp2_with fail
    go_ret
    rw [HF.out]
    exact ⟨rfl, H2.out, by rw [HP1.out.1]; exact HK2.out⟩
  | true =>
    go_wp2_with fail
    refine (head_f cnt n k0 k1 (by omega) _).mono ?_
    rintro e w3 ⟨hh, rfl, hr3, hk3, hh3⟩
    have HR3 := hr3
    have HHh : Hid (w2.heap.size ≤ hh) := hh3
    have H3 := Lib.hid (H2.out.keep hk3.out id id)
    have HB3 := Lib.hid (HB0.out.keep hk3.out id)
    have HK3 := Lib.hid (HK2.out.trans hk3.out (fun i hi => hi.elim))
    have HX3 := Lib.hid (HX2.out.keep hk3.out (fun i hi => hi.elim))
    have HS3 := Lib.hid hk3.out.size
    clear hr3 hk3 hh3
    go_wp2_with fail
    obtain ⟨zs, hzs⟩ : ∃ zs, zs = headL cnt n ++ xs := ⟨_, rfl⟩
    have HZ := Lib.hid hzs
    have HZb : Hid ((∀ x ∈ zs, 0 ≤ x ∧ x ≤ 255) ∧ zs.length ≤ 1000000000000000) := Lib.hid (by
      rw [hzs]
      refine ⟨fun x hx => ?_, ?_⟩
      · rcases List.mem_append.1 hx with h | h
        · unfold headL at h
          simp only [List.mem_cons, List.not_mem_nil, or_false] at h
          omega
        · exact HB.out x h
      · rw [List.length_append, ← HN.out]
        simp [headL]
        omega)
    clear hzs
    refine (Concat_h w3.heap.size (some ⟨hh, 0, none⟩) A 6 d (headL cnt n) xs 6 n rfl HN.out.symm (Blk.new w3 _ _) (Row.blk (HR3.out.alloc _) (fun i v hv => by simpa using hv)) (HX3.out.row.keep ((Keep.refl Zero w3).alloc _) (fun _ _ _ => id)) (fun h => by cases h) HX3.out.nil (by omega) (by omega) zs HZ.out).mono ?_
    rintro e w5 ⟨A5, c5, rfl, hr5, hk5⟩
    have HK35 : Hid (Keep Zero w3 w5) := Lib.hid (((Keep.refl Zero w3).alloc _).trans hk5.out (fun i hi => hi.elim))
    have H5 := Lib.hid (H3.out.keep HK35.out id id)
    have HB5 := Lib.hid (HB3.out.keep HK35.out id)
    have HK5 := Lib.hid (HK3.out.trans HK35.out (fun i hi => hi.elim))
    have HX5 := Lib.hid (HX3.out.keep HK35.out (fun i hi => hi.elim))
    have HR5 := Lib.hid (HR3.out.keep HK35.out id)
    have HRz := hr5
    clear hr5 hk5
    go_wp2_with fail
    refine (CRC16_any A5 c5 zs HRz.out HZb.out.1 HZb.out.2).mono ?_
    rintro e w' ⟨rfl, rfl⟩
    obtain ⟨cr, hcr⟩ : ∃ cr, cr = crc zs := ⟨_, rfl⟩
    have hcr1 : cr < 65536 := by rw [hcr]; exact crc_lt HZb.out.1
    have HCr := Lib.hid hcr
    rw [← hcr]
    clear hcr
    go_wp2_with fail
    go_loopg [2, 9] (pagesOf xs + 1) (fun k s2 s9 wr => ∃ (i : Nat) (A' : Option Addr) (d' : Nat) (ci : Ch), i ≤ pagesOf xs ∧ k = pagesOf xs + 1 - i ∧ s9 = .int .i64 ((i + 1 : Nat) : Int) ∧ s2 = .slice A' (n - 8 * i) d' ∧ Src wr g c.pg A' d' (xs.drop (8 * i)) ∧ IsCh wr g ci ∧ (ci.pg = c.pg ∧ ci.n = c.n) ∧ putsGo f xs (pagesOf xs) 0 c1 = putsGo f xs (pagesOf xs - i) i ci ∧ Blk wr w.heap.size #[.pointer (some ⟨g, 0, none⟩), .int .i64 f, .int .i64 m] 55 ∧ Keep (Chp g c.pg) w wr ∧ Blk wr hh (ints .u8 (headL cnt n)).toArray 5)
    case atStart => exact ⟨0, A, d, c1, Nat.zero_le _, rfl, rfl, rfl, by simpa using HX5.out, H5.out, HP1.out, rfl, HB5.out, HK5.out, HR5.out⟩
    case round =>
      obtain ⟨i, A', d', ci, hi, hk, rfl, rfl, hsrc, hch, hpg, hgo, hb0, hkp, hrh⟩ := hrel
      have HM := Lib.hid hk
      have HSr := Lib.hid hsrc
      have HCh := Lib.hid hch
      have HPg := Lib.hid hpg
      have HGo := Lib.hid hgo
      have HB0r := Lib.hid hb0
      have HKr := Lib.hid hkp
      have HRh := Lib.hid hrh
      clear hk hsrc hch hpg hgo hb0 hkp hrh
      by_cases hlt : 0 < n - 8 * i
      · have d0 := HB0r.out.cell 0
        have d1 := HB0r.out.cell 1
        have l0 := HB0r.out.lt
        obtain ⟨y, hy⟩ : ∃ y, (ints .u8 (xs.drop (8 * i)))[0]? = some y := ⟨_, List.getElem?_eq_getElem (by rw [ints_length, List.length_drop, ← HN.out]; omega)⟩
        obtain ⟨b, o, rfl, hbl, _⟩ := HSr.out.row 0 y hy
        have hd' : n - 8 * i ≤ d' := by have := HSr.out.le; rw [List.length_drop, ← HN.out] at this; exact this
        clear hy
        obtain ⟨k, hk⟩ : ∃ k, k = min (n - 8 * i) 8 := ⟨_, rfl⟩
        have HKk := Lib.hid hk
        have hk8 : k ≤ 8 := by omega
        have hkn : k ≤ n - 8 * i := by omega
        clear hk
        have HRo : Hid (Row (wr.alloc (.cells #[.int .u8 0, .int .u8 0, .int .u8 0, .int .u8 0, .int .u8 0, .int .u8 0, .int .u8 0, .int .u8 0] 44)) (some ⟨b, o, none⟩) (ints .u8 (xs.drop (8 * i)))) := Lib.hid (HSr.out.row.keep ((Keep.refl Zero wr).alloc _) (fun _ _ _ => id))
        obtain ⟨A2, hA2⟩ : ∃ A2, A2 = (if d' = k then (⟨b, o, none⟩ : Addr) else ⟨b, o + k, none⟩) := ⟨_, rfl⟩
        have HA2 := Lib.hid hA2
        have HS22 : Hid (∀ X, Sem.run Try.prog (Instr.slice 22 (.slice (some ⟨b, o, none⟩) (n - 8 * i) d') (some (.int .i64 (k : Int))) none none) X = .ok (.slice (some A2) (n - 8 * i - k) (d' - k)) X) := Lib.hid (fun X => by
          rw [hA2]
          exact slice22_l X b o (n - 8 * i) d' k hkn hd' k rfl)
        have HB0a := Lib.hid (HB0r.out.alloc (.cells #[.int .u8 0, .int .u8 0, .int .u8 0, .int .u8 0, .int .u8 0, .int .u8 0, .int .u8 0, .int .u8 0] 44))
        have HNe : Hid (¬ Own.One wr.heap.size w.heap.size) := Lib.hid (fun e => by have e' : w.heap.size = wr.heap.size := e; omega)
        obtain ⟨pb, hpb⟩ : ∃ pb : Nat → Int, pb = pageOf xs i := ⟨_, rfl⟩
        have HPb := Lib.hid hpb
        clear hA2 hpb
        go_wp2_with (((with_reducible refine copy_page rfl (.tmp 33) (.tmp 34) rfl wr.heap.size b o (n - 8 * i) d' rfl rfl (Blk.new wr _ _) (xs.drop (8 * i)) (by rw [List.length_drop, ← HN.out]) HRo.out k HKk.out ?_); intro X hBX hKX; have HBX := Lib.hid hBX; have HKX := Lib.hid hKX; clear hBX hKX; have x0 := (HB0a.out.keep HKX.out HNe.out).cell 0; have x1 := (HB0a.out.keep HKX.out HNe.out).cell 1; have y0 : X.cell? ⟨wr.heap.size, 0, none⟩ = some (.int .u8 (pb 0)) := HPb.out ▸ HBX.out.cell 0; have y1 : X.cell? ⟨wr.heap.size, 1, none⟩ = some (.int .u8 (pb 1)) := HPb.out ▸ HBX.out.cell 1; have y2 : X.cell? ⟨wr.heap.size, 2, none⟩ = some (.int .u8 (pb 2)) := HPb.out ▸ HBX.out.cell 2; have y3 : X.cell? ⟨wr.heap.size, 3, none⟩ = some (.int .u8 (pb 3)) := HPb.out ▸ HBX.out.cell 3; have y4 : X.cell? ⟨wr.heap.size, 4, none⟩ = some (.int .u8 (pb 4)) := HPb.out ▸ HBX.out.cell 4; have y5 : X.cell? ⟨wr.heap.size, 5, none⟩ = some (.int .u8 (pb 5)) := HPb.out ▸ HBX.out.cell 5; have y6 : X.cell? ⟨wr.heap.size, 6, none⟩ = some (.int .u8 (pb 6)) := HPb.out ▸ HBX.out.cell 6; have y7 : X.cell? ⟨wr.heap.size, 7, none⟩ = some (.int .u8 (pb 7)) := HPb.out ▸ HBX.out.cell 7; have hsl := HS22.out X))
        have HKrX : Hid (Keep Zero wr X) := Lib.hid (((Keep.refl Zero wr).alloc _).trans (S' := Own.One wr.heap.size) HKX.out (fun j hj => .inr (by have e' : j = wr.heap.size := hj; omega)))
        have HChX := Lib.hid (HCh.out.keep HKrX.out id id)
        have HSX := Lib.hid (HSr.out.keep HKrX.out (fun i hi => hi.elim))
        have HKwX := Lib.hid (HKr.out.trans HKrX.out (fun i hi => hi.elim))
        have HRhX := Lib.hid (HRh.out.keep HKrX.out id)
        have HB0X := Lib.hid (HB0r.out.keep HKrX.out id)
        obtain ⟨b2, c2, hw2⟩ : ∃ b2 c2, ci.write ((f : Int) + ((i : Int) + 1)) pb = (b2, c2) := ⟨_, _, rfl⟩
        have HW2 := Lib.hid hw2
        have HP2 : Hid (c2.pg = c.pg ∧ c2.n = c.n) := Lib.hid (by
          have h1 := ci.write_pg ((f : Int) + ((i : Int) + 1)) pb
          have h2 := ci.write_n ((f : Int) + ((i : Int) + 1)) pb
          rw [hw2] at h1 h2
          exact ⟨h1.trans HPg.out.1, h2.trans HPg.out.2⟩)
        clear hw2 x0 x1 y0 y1 y2 y3 y4 y5 y6 y7 hsl HCh HSr HKr HRh HB0r HB0a HRo
        refine (Write_any HChX.out ((f : Int) + ((i : Int) + 1)) pb (by rw [HPb.out]; exact getD_bound (fun y hy => HB.out y (List.mem_of_mem_drop hy)))).mono ?_
        rintro e w6 hp
        rw [HW2.out] at hp
        obtain ⟨he, h2, hk2⟩ := hp
        have he2 : e = .returned (.bool b2) := he
        subst he2
        clear he
        have H6 : Hid (IsCh w6 g c2) := Lib.hid h2
        have hk2' : Keep (Chp g c.pg) X w6 := by
          have := hk2
          simp only [HP2.out.1] at this
          exact this
        have HB6 := Lib.hid (HB0X.out.keep hk2' (fun e => by have h1 := H.out.chip.lt; have h2 := H.out.pages.lt; rcases e with e | e <;> omega))
        have HK6 : Hid (Keep (Chp g c.pg) w w6) := Lib.hid (HKwX.out.trans hk2' (fun i hi => .inl hi))
        have HX6 := Lib.hid (HSX.out.keep hk2' (fun i hi => hi))
        have HRh6 : Hid (Blk w6 hh (ints .u8 (headL cnt n)).toArray 5) := Lib.hid (HRhX.out.keep hk2' (fun e => by
          have h1 := H2.out.chip.lt; have h2 := H2.out.pages.lt
          have h3 := HHh.out
          have h4 := HP1.out.1
          rcases e with e | e <;> omega))
        clear h2 hk2 hk2'
        have hip : i < pagesOf xs := by unfold pagesOf; rw [← HN.out]; omega
        cases b2 with
        | false =>
          have HF : Hid (putsF c f cnt xs = (false, c2)) := Lib.hid (by
            unfold putsF
            rw [HW1.out, HGo.out, show pagesOf xs - i = (pagesOf xs - (i + 1)) + 1 by omega]
            unfold putsGo
            rw [← HPb.out, HW2.out]
            rfl)
          go_wp2_with fail
          go_ret
          rw [HF.out]
          exact ⟨rfl, H6.out, by rw [HP2.out.1]; exact HK6.out⟩
        | true =>
          have HG : Hid (putsGo f xs (pagesOf xs) 0 c1 = putsGo f xs (pagesOf xs - (i + 1)) (i + 1) c2) := Lib.hid (by
            rw [HGo.out, show pagesOf xs - i = (pagesOf xs - (i + 1)) + 1 by omega]
            conv => lhs; unfold putsGo
            rw [← HPb.out, HW2.out]
            rfl)
          have HNn : Hid (n - 8 * i - k = n - 8 * (i + 1)) := Lib.hid (by have := HKk.out; omega)
          have HSn : Hid (Src w6 g c.pg (some A2) (d' - k) (xs.drop (8 * (i + 1)))) := Lib.hid (by
            have hdr : xs.drop (8 * (i + 1)) = (xs.drop (8 * i)).drop 8 := by rw [List.drop_drop, show 8 * (i + 1) = 8 * i + 8 by omega]
            refine ⟨?_, ?_, (fun h => by cases h), ?_⟩
            · intro j v hv
              have hj : 8 * (i + 1) + j < n := by
                have := (List.getElem?_eq_some_iff.1 hv).1
                rw [ints_length, List.length_drop, ← HN.out] at this
                omega
              have hk8' : k = 8 := by have := HKk.out; omega
              have hdk : ¬ d' = k := by omega
              rw [hdr] at hv
              have hv2 : (ints .u8 (xs.drop (8 * i)))[8 + j]? = some v := by
                rw [ints_get] at hv ⊢
                rw [List.getElem?_drop] at hv
                exact hv
              obtain ⟨b', o', e, hl, hc⟩ := HX6.out.row (8 + j) v hv2
              cases e
              refine ⟨b, o + k, by rw [HA2.out, if_neg hdk], hl, ?_⟩
              rw [hk8', Nat.add_assoc]
              exact hc
            · rw [List.length_drop, ← HN.out]
              have := HKk.out
              omega
            · intro a ha
              cases ha
              have h1 := HX6.out.far _ rfl
              rw [HA2.out]
              split <;> exact h1)
          rw [HNn.out]
          go_wp2_with fail
          go_roundg (pagesOf xs + 1 - (i + 1))
          case measure => rw [HM.out]; omega
          case rel => exact ⟨i + 1, some A2, d' - k, c2, hip, rfl, by go_num, rfl, HSn.out, H6.out, HP2.out, HG.out, HB6.out, HK6.out, HRh6.out⟩
      · have hpe : pagesOf xs - i = 0 := by unfold pagesOf; rw [← HN.out]; omega
        have HG : Hid (putsGo f xs (pagesOf xs) 0 c1 = (true, ci)) := Lib.hid (by
          rw [HGo.out, hpe]
          rfl)
        have d0 := HB0r.out.cell 0
        have d1 := HB0r.out.cell 1
        have l0 := HB0r.out.lt
        clear hpe
        have hw1 : IntKind.u8.wrap (cr : Int) = (cr : Int) % 256 := IntKind.wrap_u8' _
        have hw2 : IntKind.u8.wrap ((cr : Int) / 256) = (cr : Int) / 256 := by rw [IntKind.wrap_u8']; omega
        have hat := arr44
        have HNh : Hid (w.heap.size < w2.heap.size ∧ g < w2.heap.size ∧ c.pg < w2.heap.size ∧ w2.heap.size ≤ hh) := Lib.hid ⟨HB0.out.lt, H2.out.chip.lt, by have := H2.out.pages.lt; rw [HP1.out.1] at this; exact this, HHh.out⟩
        obtain ⟨pb, hpb⟩ : ∃ pb : Nat → Int, pb = headB cnt xs := ⟨_, rfl⟩
        have HPb := Lib.hid hpb
        have hpbb : ∀ r, 0 ≤ pb r ∧ pb r ≤ 255 := by
          rw [hpb]
          intro r
          unfold headB
          refine getD_bound (fun y hy => ?_) r
          have hz := HZ.out
          have hc := HCr.out
          rw [hz, HN.out] at hc
          rw [← hc] at hy
          rw [HN.out] at hl2
          unfold headL at hy
          simp only [List.cons_append, List.nil_append, List.mem_cons, List.not_mem_nil, or_false] at hy
          omega
        have HPbb := Lib.hid hpbb
        obtain ⟨b2, c2, hw2c⟩ : ∃ b2 c2, ci.write (f : Int) pb = (b2, c2) := ⟨_, _, rfl⟩
        have HW2 := Lib.hid hw2c
        have HP2 : Hid (c2.pg = c.pg ∧ c2.n = c.n) := Lib.hid (by
          have h1 := ci.write_pg (f : Int) pb
          have h2 := ci.write_n (f : Int) pb
          rw [hw2c] at h1 h2
          exact ⟨h1.trans HPg.out.1, h2.trans HPg.out.2⟩)
        have HPv : Hid (∀ (j : Nat), j < 8 → (headL cnt n ++ [(cr : Int) % 256, (cr : Int) / 256]).getD j 0 = pb j) := Lib.hid (fun j hj => by
          rw [hpb]
          unfold headB
          have hc := HCr.out
          rw [HZ.out, HN.out] at hc
          rw [← hc, HN.out])
        clear hpb hpbb hw2c
        go_wp2_with fail
        go_region_law (first | (refine step_app rfl (.tmp 50) (.tmp 56) rfl hh (.slice (some ⟨hh, 0, none⟩) 6 6) 6 (ints .u8 (headL cnt n)) rfl (head_own (HRh.out.drew.alloc _)) (some ⟨wr.heap.size, 0, none⟩) 2 2 (ints .u8 [(cr : Int) % 256, (cr : Int) / 256]) rfl rfl (fun h => by cases h) (Row.blk (Blk.at_ (by simp)) (fun i v hv => by simpa [ints] using hv)) (ints_one _ _) (by omega) (Nat.le_of_lt (HRh.out.drew.alloc _).lt) ?_; intro v7 w7 hown7 hgr7; have hgr7 := Lib.hid hgr7; rw [← ints_append] at hown7; obtain ⟨q, cap, rfl, hq, hcells⟩ := own8 hown7; have HCe := Lib.hid (And.intro hq hcells); have z0 := (Blk.grown (HB0r.out.drew.alloc _) hgr7.out (fun e => by have := HNh.out; simp [Value.ownBlock] at e; omega)).cell 0; have z1 := (Blk.grown (HB0r.out.drew.alloc _) hgr7.out (fun e => by have := HNh.out; simp [Value.ownBlock] at e; omega)).cell 1; clear hown7 hq hcells; have y0 : w7.cell? ⟨q, 0, none⟩ = some (.int .u8 (pb 0)) := HPv.out 0 (by decide) ▸ HCe.out.2 0 (by decide); have y1 : w7.cell? ⟨q, 1, none⟩ = some (.int .u8 (pb 1)) := HPv.out 1 (by decide) ▸ HCe.out.2 1 (by decide); have y2 : w7.cell? ⟨q, 2, none⟩ = some (.int .u8 (pb 2)) := HPv.out 2 (by decide) ▸ HCe.out.2 2 (by decide); have y3 : w7.cell? ⟨q, 3, none⟩ = some (.int .u8 (pb 3)) := HPv.out 3 (by decide) ▸ HCe.out.2 3 (by decide); have y4 : w7.cell? ⟨q, 4, none⟩ = some (.int .u8 (pb 4)) := HPv.out 4 (by decide) ▸ HCe.out.2 4 (by decide); have y5 : w7.cell? ⟨q, 5, none⟩ = some (.int .u8 (pb 5)) := HPv.out 5 (by decide) ▸ HCe.out.2 5 (by decide); have y6 : w7.cell? ⟨q, 6, none⟩ = some (.int .u8 (pb 6)) := HPv.out 6 (by decide) ▸ HCe.out.2 6 (by decide); have y7 : w7.cell? ⟨q, 7, none⟩ = some (.int .u8 (pb 7)) := HPv.out 7 (by decide) ▸ HCe.out.2 7 (by decide)) | (go_simp; go_at_call 24; refine (Write_h (w := w7) (c := ci) (IsCh.keep (S := Own.One hh) HCh.out ((((Keep.refl (Own.One hh) wr).drew).alloc _).grown hgr7.out (fun k hk => .inl (by simpa [Value.ownBlock, Own.One] using hk.symm))) (fun e => by have := HNh.out; have e' : g = hh := e; omega) (fun e => by have := HNh.out; have := HPg.out.1; have e' : ci.pg = hh := e; omega)) f pb HPbb.out c.pg HPg.out.1 b2 c2 HW2.out).mono ?_; rintro e w8 ⟨rfl, hk8⟩))
        all_goals
          have HF : Hid (putsF c f cnt xs = (b2, c2)) := Lib.hid (by
            unfold putsF
            rw [HW1.out, HG.out, ← HPb.out]
            exact HW2.out)
          have HK7 : Hid (Keep (Chp g c.pg) w w7) := Lib.hid ((((HKr.out.drew).alloc _).grown hgr7.out (fun k hk => .inr (by have := HNh.out; simp [Value.ownBlock] at hk; omega))))
          go_wp2
          go_ret
          rw [HF.out]
          exact ⟨rfl, hk8.out.1, by rw [HP2.out.1]; exact HK7.out.trans hk8.out.2 (fun i hi => .inl hi)⟩
end Go.Proofs.Ytgegpeicpbhnkaa.Nvm
