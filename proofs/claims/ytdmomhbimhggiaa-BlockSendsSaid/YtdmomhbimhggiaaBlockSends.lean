/- BlockSends: the law's walk. -/
import Derived.Test.YtdmomhbimhggiaaBlockU
import Derived.Test.YtdmomhbimhggiaaBlockH
import Derived.Deep.RegionHeld3
namespace Go.Proofs.Ytdmomhbimhggiaa.Block
open Go.RowKit Go.Proofs.Ytdmomhbimhggiaa.Own Go.Proofs.Ytdmomhbimhggiaa.Crc
structure SD (w0 w : World) (gs gd : Nat) (s : Snd) (d : Doc) : Prop where
  snd : IsSnd w gs s
  doc : IsDoc w gd d
  lt : gs < gd
  sA : ∀ a, s.A = some a → a.block < gd
  dA : ∀ a, d.A = some a → d.bs ≠ [] → a.block < w0.heap.size
  low : w0.heap.size ≤ gs
  keep : Keep Own.Zero w0 w
section
variable {w0 w w1 : World} {gs gd : Nat} {s s1 : Snd} {d d1 : Doc}
theorem SD.s_step (h : SD w0 w gs gd s d) (h1 : IsSnd w1 gs s1) (hA : s1.A = s.A) (k : Keep (Own.One gs) w w1) : SD w0 w1 gs gd s1 d :=
  ⟨h1, h.doc.keep k (fun e => by have e' : gd = gs := e; have := h.lt; omega) (fun a ha hn e => by have e' : a.block = gs := e; have := h.dA a ha hn; have := h.low; omega), h.lt, by rw [hA]; exact h.sA, h.dA, h.low, h.keep.trans k (fun i hi => .inr (by have e' : i = gs := hi; have := h.low; omega))⟩
theorem SD.d_step (h : SD w0 w gs gd s d) (h1 : IsDoc w1 gd d1) (hA : d1.A = d.A) (hb : d1.bs = d.bs) (k : Keep (Own.One gd) w w1) : SD w0 w1 gs gd s d1 :=
  ⟨h.snd.keep k (fun e => by have e' : gs = gd := e; have := h.lt; omega) (fun a ha e => by have e' : a.block = gd := e; have := h.sA a ha; omega), h1, h.lt, h.sA, by rw [hA, hb]; exact h.dA, h.low, h.keep.trans k (fun i hi => .inr (by have e' : i = gd := hi; have := h.low; have := h.lt; omega))⟩
theorem SD.new (h : SD w0 w gs gd s d) (k : Keep Own.Zero w w1) : SD w0 w1 gs gd s d :=
  ⟨h.snd.keep k id (fun _ _ => id), h.doc.keep k id (fun _ _ _ => id), h.lt, h.sA, h.dA, h.low, h.keep.trans k (fun _ h => h.elim)⟩
end
theorem slice23_h (A : Option Addr) (L c n : Nat) (h1 : n ≤ L) (h2 : L ≤ c) (X : World) : Sem.run Try.prog (Instr.slice 23 (.slice A L c) none (some (.int .i64 (n : Int))) none) X = .ok (.slice A n c) X := by
  have hu : Try.prog.underlying 23 = some (.slice (Try.prog.elem 23)) := by kernel_rfl
  rw [run_slice_h X 23 A L c hu .i64 n (by omega) (by omega)]
  simp [go_sem]
theorem cells8_keep {S : Nat → Prop} {w w' : World} {b o : Nat} {F : Nat → Int} (k : Keep S w w') (hb : b < w.heap.size) (hn : ¬ S b)
    (h : w.cell? ⟨b, o, none⟩ = some (.int .u8 (F 0)) ∧ w.cell? ⟨b, o + 1, none⟩ = some (.int .u8 (F 1)) ∧ w.cell? ⟨b, o + 2, none⟩ = some (.int .u8 (F 2)) ∧ w.cell? ⟨b, o + 3, none⟩ = some (.int .u8 (F 3)) ∧ w.cell? ⟨b, o + 4, none⟩ = some (.int .u8 (F 4)) ∧ w.cell? ⟨b, o + 5, none⟩ = some (.int .u8 (F 5)) ∧ w.cell? ⟨b, o + 6, none⟩ = some (.int .u8 (F 6)) ∧ w.cell? ⟨b, o + 7, none⟩ = some (.int .u8 (F 7))) :
    w'.cell? ⟨b, o, none⟩ = some (.int .u8 (F 0)) ∧ w'.cell? ⟨b, o + 1, none⟩ = some (.int .u8 (F 1)) ∧ w'.cell? ⟨b, o + 2, none⟩ = some (.int .u8 (F 2)) ∧ w'.cell? ⟨b, o + 3, none⟩ = some (.int .u8 (F 3)) ∧ w'.cell? ⟨b, o + 4, none⟩ = some (.int .u8 (F 4)) ∧ w'.cell? ⟨b, o + 5, none⟩ = some (.int .u8 (F 5)) ∧ w'.cell? ⟨b, o + 6, none⟩ = some (.int .u8 (F 6)) ∧ w'.cell? ⟨b, o + 7, none⟩ = some (.int .u8 (F 7)) := by
  have e : ∀ q, w'.cell? ⟨b, q, none⟩ = w.cell? ⟨b, q, none⟩ := fun q => k.cell (p := ⟨b, q, none⟩) hb hn
  rw [e, e, e, e, e, e, e, e]
  exact h
set_option maxRecDepth 100000 in
set_option maxHeartbeats 8000000 in
theorem sends_walk (A B : Option Addr) (c q : Nat) (xs : List Int) (sz : Int) (fl : List (Nat → Int)) (w : World) (h : In w A c xs) (hx : xs.length ≤ 140737488355328) (hz0 : -9223372036854775808 ≤ sz) (hz1 : sz ≤ 9223372036854775807) (hB : Row w B (cellsOf fl)) (hFb : ∀ F ∈ fl, ∀ k, 0 ≤ F k ∧ F k ≤ 255) (hlq : fl.length ≤ q) :
    Calls Try.prog 3 #[.slice A xs.length c, .int .i64 sz, .slice B fl.length q] w fun e w' => e = .returned (.bool true) ∧ Keep Own.Zero w w' := by
  have HI := Lib.hid h
  have HRB := Lib.hid hB
  have HFb := Lib.hid hFb
  obtain ⟨n, hn⟩ : ∃ n, n = xs.length := ⟨_, rfl⟩
  have HN := Lib.hid hn
  obtain ⟨nb, hnb⟩ : ∃ nb, nb = fl.length := ⟨_, rfl⟩
  rw [← hn, ← hnb]
  rw [← hn] at hx
  rw [← hnb] at hlq
  have HFl0 := Lib.hid hnb
  have hE : Hid (Row (w.alloc (.cells #[] 5)) A (ints .u8 xs)) := Lib.hid (h.row.keep ((Keep.refl Own.Zero w).alloc (.cells #[] 5)) (fun _ _ _ => id))
  clear h hB hFb hn hnb
  by_cases hlong : 65536 < n
  · have hl1 : (65536 : Int) < (n : Int) := by omega
    go_enter Try.func3, Try.ntmps3
    go_wp2_with (at_builtin; refine app_own rfl (.tmp 20) (.tmp 21) 22 rfl w.heap.size 5 (.int .u8 0) 1 1 under22 info5 rfl (by decide) (.slice (some ⟨w.heap.size, 0, none⟩) 0 0) 0 [] rfl (own_empty 1 (Blk.new w _ _)) A n c (ints .u8 xs) rfl (by rw [ints_length, HN.out]; omega) HI.out.nil hE.out (ints_one _ _) (by unfold maxLen; omega) (by omega) (by simp) ?_; intro v2 w2 hown2 hgr2)
    have HO2 : Hid (w2.ownsRow w.heap.size 5 1 v2 n (ints .u8 xs)) := Lib.hid (by have h := hown2; rw [Nat.zero_add, List.nil_append] at h; exact h)
    have HK2 : Hid (Keep Own.Zero w w2) := Lib.hid (((Keep.refl Own.Zero w).alloc _).grown hgr2 (fun k hk => .inr (by cases hk; exact Nat.le_refl _)))
    clear hown2 hgr2
    obtain ⟨A2, c2, rfl, hi2, _⟩ := own_in HO2.out HN.out HI.out.byte
    go_wp2_with fail
    refine (NewSender_long A2 c2 n hlong).mono ?_
    rintro e w' ⟨rfl, rfl⟩
    go_wp2_with ((with_reducible refine (lives_is _).mono ?_); rintro e w4 ⟨rfl, hk4⟩)
    go_ret
    exact ⟨rfl, HK2.out.trans hk4.out (fun _ h => h.elim)⟩
  · have hl1 : ¬ (65536 : Int) < (n : Int) := by omega
    go_enter Try.func3, Try.ntmps3
    go_wp2_with (at_builtin; refine app_own rfl (.tmp 20) (.tmp 21) 22 rfl w.heap.size 5 (.int .u8 0) 1 1 under22 info5 rfl (by decide) (.slice (some ⟨w.heap.size, 0, none⟩) 0 0) 0 [] rfl (own_empty 1 (Blk.new w _ _)) A n c (ints .u8 xs) rfl (by rw [ints_length, HN.out]; omega) HI.out.nil hE.out (ints_one _ _) (by unfold maxLen; omega) (by omega) (by simp) ?_; intro v2 w2 hown2 hgr2)
    have HO2 : Hid (w2.ownsRow w.heap.size 5 1 v2 n (ints .u8 xs)) := Lib.hid (by have h := hown2; rw [Nat.zero_add, List.nil_append] at h; exact h)
    have HK2 : Hid (Keep Own.Zero w w2) := Lib.hid (((Keep.refl Own.Zero w).alloc _).grown hgr2 (fun k hk => .inr (by cases hk; exact Nat.le_refl _)))
    clear hown2 hgr2
    obtain ⟨A2, c2, rfl, hi2, _⟩ := own_in HO2.out HN.out HI.out.byte
    have HI2 := Lib.hid hi2
    clear hi2
    go_wp2_with fail
    refine (NewSender_ok HI2.out (by rw [← HN.out]; omega) n HN.out).mono ?_
    rintro e w3 ⟨gs, A3, c3, rfl, hp3⟩
    have HP3 := hp3
    clear hp3
    go_wp2_with fail
    have hdeaf := Feed_deaf HP3.out.1 (.inl rfl) (fun k => if k = 0 then 162 else if k = 2 then 9 else 0)
    rw [show aggF (fun k => if k = 0 then 162 else if k = 2 then 9 else 0) = .agg #[.int .u8 162, .int .u8 0, .int .u8 9, .int .u8 0, .int .u8 0, .int .u8 0, .int .u8 0, .int .u8 0] from rfl] at hdeaf
    refine hdeaf.mono ?_
    rintro e w4 ⟨rfl, hp4⟩
    have HP4 := hp4
    clear hp4 hdeaf
    have HAl4 : Hid (∀ a, A3 = some a → a.block < w4.heap.size) := Lib.hid (fun a ha => Nat.lt_of_lt_of_le (HP3.out.2.2.2 a ha).2 HP4.out.2.size)
    have HK4 : Hid (Keep Own.Zero w w4) := Lib.hid ((HK2.out.trans HP3.out.2.1 (fun _ h => h.elim)).trans HP4.out.2 (fun k hk => .inr (by have e' : k = gs := hk; have := HP3.out.2.2.1; have := HK2.out.size; omega)))
    have HS5 : Hid (SD w (w4.alloc (.cells #[.slice A n c, .int .i64 0, .int .i64 0, .int .i64 0, .int .u32 0] 34)) gs w4.heap.size ⟨A3, c3, xs, 0, 0, false, false, false, 0⟩ ⟨A, c, xs, 0, 0, 0, 0⟩) := Lib.hid (by
      have hA0 : ∀ a, A = some a → xs ≠ [] → a.block < w.heap.size := fun a ha hn => HI.out.old ha hn
      refine ⟨HP4.out.1.alloc _, ⟨(Blk.new w4 _ _).cast (by simp [Doc.cells, HN.out]), HI.out.keep (HK4.out.alloc _) (fun _ _ => id), fun a ha hn e => ?_, ?_, by simp⟩, HP4.out.1.blk.lt, HAl4.out, hA0, Nat.le_trans HK2.out.size HP3.out.2.2.1, HK4.out.alloc _⟩
      · have h1 := hA0 a ha hn
        have h2 := HK4.out.size
        omega
      · show xs.length ≤ 65536
        rw [← HN.out]
        omega)
    obtain ⟨gd, hgd⟩ : ∃ gd, gd = w4.heap.size := ⟨_, rfl⟩
    rw [← hgd] at HS5
    have HGd := Lib.hid hgd
    clear hgd HP3 HP4 HAl4 HO2 HI2
    by_cases hsz : sz < 1 ∨ 127 < sz
    · have HSz := Lib.hid hsz
      clear hsz
      go_wp2_with fail
      rw [← HGd.out]
      refine (Begin_bad HS5.out.snd rfl sz HSz.out).mono ?_
      rintro e w6 ⟨rfl, hw6⟩
      subst hw6
      go_wp2_with fail
      refine (DBegin_bad HS5.out.doc rfl sz HSz.out).mono ?_
      rintro e w7 ⟨rfl, hw7⟩
      subst hw7
      go_wp2_with fail
      refine (same_true (l := []) (Row.nil _ none) (Row.nil _ none) rfl (by decide)).mono ?_
      rintro e w8 ⟨rfl, m8, rfl⟩
      have HS9 := Lib.hid (HS5.out.new ((Keep.refl Own.Zero _).drewN m8))
      have HAl : Hid (Alike ⟨A3, c3, xs, 0, 0, false, false, false, 0⟩ ⟨A, c, xs, 0, 0, 0, 0⟩) := Lib.hid ⟨rfl, .inl ⟨rfl, rfl, rfl, rfl, rfl, rfl⟩⟩
      clear HS5
      by_cases hnb : 3000 < nb
      · have hnb1 : (3000 : Int) < (nb : Int) := by omega
        obtain ⟨nc, hnc⟩ : ∃ nc : Nat, nc = 3000 := ⟨_, rfl⟩
        have HFl : Hid (nc ≤ fl.length) := Lib.hid (by rw [← HFl0.out]; omega)
        have hsl' : ∀ X, Sem.run Try.prog (Instr.slice 23 (.slice B nb q) none (some (.int .i64 3000)) none) X = .ok (.slice B nc q) X := fun X => by
          have := slice23_h B nb q nc (by omega) hlq X
          rw [hnc] at this ⊢
          exact this
        have hncb : nc ≤ 3000 := by omega
        clear hnc hlq hnb
        go_wp2_with fail
        go_loopg [14] nc (fun q s14 wr => ∃ i s d, i ≤ nc ∧ q = nc - i ∧ s14 = .int .i64 (i : Nat) ∧ SD w wr gs gd s d ∧ Alike s d ∧ s.begun = false)
        case atStart => exact ⟨0, _, _, Nat.zero_le _, rfl, rfl, HS9.out, HAl.out, rfl⟩
        case round =>
          obtain ⟨i, s, d, hi, hq, rfl, hsd, hal, hbg⟩ := hrel
          have HQ := Lib.hid hq
          have HSD := Lib.hid hsd
          have HAL := Lib.hid hal
          have HBg := Lib.hid hbg
          clear hq hsd hal hbg
          by_cases hlt : i < nc
          · have h1 : (i : Int) < (nc : Int) := by omega
            have h0 : (0 : Int) ≤ (i : Int) := by omega
            obtain ⟨F, hF⟩ : ∃ F, fl[i]? = some F := ⟨fl[i]'(by have := HFl.out; omega), List.getElem?_eq_getElem _⟩
            have hFb := HFb.out F (List.mem_of_getElem? hF)
            obtain ⟨bF, oF, rfl, lF, hz⟩ := fr_at HRB.out hF
            have HLF := Lib.hid lF
            have hC0 : wr.drew.cell? ⟨bF, oF + i * 8, none⟩ = some (.int .u8 (F 0)) ∧ wr.drew.cell? ⟨bF, oF + i * 8 + 1, none⟩ = some (.int .u8 (F 1)) ∧ wr.drew.cell? ⟨bF, oF + i * 8 + 2, none⟩ = some (.int .u8 (F 2)) ∧ wr.drew.cell? ⟨bF, oF + i * 8 + 3, none⟩ = some (.int .u8 (F 3)) ∧ wr.drew.cell? ⟨bF, oF + i * 8 + 4, none⟩ = some (.int .u8 (F 4)) ∧ wr.drew.cell? ⟨bF, oF + i * 8 + 5, none⟩ = some (.int .u8 (F 5)) ∧ wr.drew.cell? ⟨bF, oF + i * 8 + 6, none⟩ = some (.int .u8 (F 6)) ∧ wr.drew.cell? ⟨bF, oF + i * 8 + 7, none⟩ = some (.int .u8 (F 7)) := by
              have x0 := hz 0 (by omega)
              have x1 := hz 1 (by omega)
              have x2 := hz 2 (by omega)
              have x3 := hz 3 (by omega)
              have x4 := hz 4 (by omega)
              have x5 := hz 5 (by omega)
              have x6 := hz 6 (by omega)
              have x7 := hz 7 (by omega)
              simp only [← Nat.add_assoc, Nat.add_zero] at x0 x1 x2 x3 x4 x5 x6 x7
              exact cells8_keep HSD.out.keep.drew lF id ⟨x0, x1, x2, x3, x4, x5, x6, x7⟩
            have HC8 := Lib.hid hC0
            obtain ⟨s2, d2, l2, hal2, hA2, hdA2, hdb2, hbg2, hl2, hcS, hcD⟩ := both HAL.out F hFb
            have HCS : Hid (∀ X, IsSnd X gs s → Calls Try.prog 9 #[.pointer (some ⟨gs, 0, none⟩), .agg #[.int .u8 (F 0), .int .u8 (F 1), .int .u8 (F 2), .int .u8 (F 3), .int .u8 (F 4), .int .u8 (F 5), .int .u8 (F 6), .int .u8 (F 7)]] X (OutS gs s2 l2 X)) := Lib.hid (fun X h => hcS X gs h)
            have HCD : Hid (∀ X, IsDoc X gd d → Calls Try.prog 13 #[.pointer (some ⟨gd, 0, none⟩), .agg #[.int .u8 (F 0), .int .u8 (F 1), .int .u8 (F 2), .int .u8 (F 3), .int .u8 (F 4), .int .u8 (F 5), .int .u8 (F 6), .int .u8 (F 7)]] X (OutD gd d2 l2 X)) := Lib.hid (fun X h => hcD X gd h)
            have HAL2 := Lib.hid hal2
            have HEq := Lib.hid (And.intro hA2 (And.intro hdA2 (And.intro hdb2 (And.intro hbg2 hl2))))
            have HGs : Hid (¬ Own.One gs bF) := Lib.hid (fun e => by have e' : bF = gs := e; have := HSD.out.low; have := HLF.out; omega)
            have HGd : Hid (¬ Own.One gd bF) := Lib.hid (fun e => by have e' : bF = gd := e; have := HSD.out.low; have := HSD.out.lt; have := HLF.out; omega)
            have HLr : Hid (bF < wr.drew.heap.size) := Lib.hid (Nat.lt_of_lt_of_le HLF.out HSD.out.keep.size)
            clear hal2 hA2 hdA2 hdb2 hbg2 hl2 hcS hcD hz hF hFb lF hC0
            go_wp2_with fail
            go_region_held3 (fun w' => w'.cell? ⟨bF, oF + i * 8, none⟩ = some (.int .u8 (F 0)) ∧ w'.cell? ⟨bF, oF + i * 8 + 1, none⟩ = some (.int .u8 (F 1)) ∧ w'.cell? ⟨bF, oF + i * 8 + 2, none⟩ = some (.int .u8 (F 2)) ∧ w'.cell? ⟨bF, oF + i * 8 + 3, none⟩ = some (.int .u8 (F 3)) ∧ w'.cell? ⟨bF, oF + i * 8 + 4, none⟩ = some (.int .u8 (F 4)) ∧ w'.cell? ⟨bF, oF + i * 8 + 5, none⟩ = some (.int .u8 (F 5)) ∧ w'.cell? ⟨bF, oF + i * 8 + 6, none⟩ = some (.int .u8 (F 6)) ∧ w'.cell? ⟨bF, oF + i * 8 + 7, none⟩ = some (.int .u8 (F 7))) (first | exact HC8.out | exact HC5.out | exact HC4.out | (go_keep; done)) (first
              | (go_at_call 9; refine (HCS.out _ (HSD.out.new ((Keep.refl Own.Zero wr).drew)).snd).mono ?_; rintro e w4 ⟨A4, c4, rfl, hp4⟩; have HP4 := hp4; clear hp4; have HSD4 := Lib.hid ((HSD.out.new ((Keep.refl Own.Zero wr).drew)).s_step HP4.out.1 HEq.out.1 HP4.out.2.2.2); have HC4 := Lib.hid (cells8_keep HP4.out.2.2.2 HLr.out HGs.out HC8.out); have HL4 := Lib.hid (Nat.lt_of_lt_of_le HLr.out HP4.out.2.2.2.size))
              | (go_at_call 13; refine (HCD.out _ HSD4.out.doc).mono ?_; rintro e w5 ⟨A5, c5, rfl, hp5⟩; have HP5 := hp5; clear hp5; have HSD5 := Lib.hid (HSD4.out.d_step HP5.out.1 HEq.out.2.1 HEq.out.2.2.1 HP5.out.2.2.2); have HC5 := Lib.hid (cells8_keep HP5.out.2.2.2 HL4.out HGd.out HC4.out); have HR4 := Lib.hid (HP4.out.2.1.keep HP5.out.2.2.2 (fun a ha hn e => by have e' : a.block = gd := e; have h1 := HP4.out.2.2.1 a ha; have h2 := HSD.out.doc.blk.lt; have h3 : wr.drew.heap.size = wr.heap.size := rfl; omega)))
              | (go_at_call 12; refine (same_true HR4.out HP5.out.2.1 rfl (by have := HEq.out.2.2.2.2; omega)).mono ?_; rintro e w6 ⟨rfl, m6, rfl⟩))
            go_wp2_with fail
            have HSD6 := Lib.hid (HSD5.out.new ((Keep.refl Own.Zero w5).drewN m6))
            refine (SDone_is HSD6.out.snd).mono ?_
            rintro e w7 ⟨rfl, hk7⟩
            have HSD7 := Lib.hid (HSD6.out.new hk7.out)
            have HAL3 := HAL2.out.2
            have d3 : w7.cell? ⟨gd, 3, none⟩ = some (.int .i64 d2.wait) := HSD7.out.doc.blk.cell 3
            have d4 : w7.cell? ⟨gd, 4, none⟩ = some (.int .u32 d2.code) := HSD7.out.doc.blk.cell 4
            clear hk7
            rcases HAL3 with hh | hh | hh | hh
            · rw [hh.2.1, hh.2.2.1]
              rw [hh.2.2.2.1] at d3
              rw [hh.2.2.2.2.1] at d4
              clear hh
              go_wp2_with fail
              go_roundg (nc - (i + 1))
              case measure => rw [HQ.out]; omega
              case rel => exact ⟨i + 1, s2, d2, by omega, rfl, by go_num, HSD7.out, HAL2.out, by rw [HEq.out.2.2.2.1]; exact HBg.out⟩
            · rw [hh.2.1, hh.2.2.2.1]
              rw [hh.2.2.2.2.1] at d3
              rw [hh.2.2.2.2.2.1] at d4
              clear hh
              go_wp2_with fail
              go_roundg (nc - (i + 1))
              case measure => rw [HQ.out]; omega
              case rel => exact ⟨i + 1, s2, d2, by omega, rfl, by go_num, HSD7.out, HAL2.out, by rw [HEq.out.2.2.2.1]; exact HBg.out⟩
            · rw [hh.2.1, hh.2.2.2.1]
              rw [hh.2.2.2.2.1] at d3
              rw [hh.2.2.2.2.2] at d4
              clear hh
              go_wp2_with fail
              go_roundg (nc - (i + 1))
              case measure => rw [HQ.out]; omega
              case rel => exact ⟨i + 1, s2, d2, by omega, rfl, by go_num, HSD7.out, HAL2.out, by rw [HEq.out.2.2.2.1]; exact HBg.out⟩
            · rw [hh.2.1, hh.2.2.2]
              rw [hh.2.2.1] at d3
              clear hh
              go_wp2_with fail
              go_roundg (nc - (i + 1))
              case measure => rw [HQ.out]; omega
              case rel => exact ⟨i + 1, s2, d2, by omega, rfl, by go_num, HSD7.out, HAL2.out, by rw [HEq.out.2.2.2.1]; exact HBg.out⟩
          · have hin : i = nc := by omega
            have hnl : ¬ (i : Int) < (nc : Int) := by omega
            clear hin hlt
            have HAt : Hid (s.at' = 0) := Lib.hid (by
              rcases HAL.out.2 with hh | hh | hh | hh
              · exact hh.2.2.2.2.2
              · rw [HBg.out] at hh; cases hh.1
              · rw [HBg.out] at hh; cases hh.1
              · rw [HBg.out] at hh; cases hh.1)
            obtain ⟨m9, hm9⟩ : ∃ m, m = min 1 (segs s.bs) := ⟨_, rfl⟩
            have hm90 : ¬ m9 = 0 := by have := (segs_bound s.bs).2.2; omega
            have hm91 : ¬ (m9 : Int) = 0 := by omega
            have HM9 := Lib.hid hm9
            clear hm9
            go_wp2_with fail
            refine (Begin_ok HSD.out.snd HBg.out HAt.out 1 (by decide) (by decide) m9 HM9.out).mono ?_
            rintro e w9 ⟨A9, c9, rfl, hp9⟩
            have HK9 : Hid (Keep Own.Zero w w9) := Lib.hid (HSD.out.keep.trans hp9.out.2.2 (fun k hk => .inr (by have e' : k = gs := hk; have := HSD.out.low; omega)))
            clear hp9
            go_wp2_with ((with_reducible refine (lives_is _).mono ?_); rintro e w4' ⟨rfl, hk4⟩)
            go_ret
            exact ⟨rfl, HK9.out.trans hk4.out (fun _ h => h.elim)⟩
      · have hnb1 : ¬ (3000 : Int) < (nb : Int) := by omega
        have HFl : Hid (nb ≤ fl.length) := Lib.hid (Nat.le_of_eq HFl0.out)
        go_wp2_with fail
        go_loopg [14] nb (fun q s14 wr => ∃ i s d, i ≤ nb ∧ q = nb - i ∧ s14 = .int .i64 (i : Nat) ∧ SD w wr gs gd s d ∧ Alike s d ∧ s.begun = false)
        case atStart => exact ⟨0, _, _, Nat.zero_le _, rfl, rfl, HS9.out, HAl.out, rfl⟩
        case round =>
          obtain ⟨i, s, d, hi, hq, rfl, hsd, hal, hbg⟩ := hrel
          have HQ := Lib.hid hq
          have HSD := Lib.hid hsd
          have HAL := Lib.hid hal
          have HBg := Lib.hid hbg
          clear hq hsd hal hbg
          by_cases hlt : i < nb
          · have h1 : (i : Int) < (nb : Int) := by omega
            have h0 : (0 : Int) ≤ (i : Int) := by omega
            obtain ⟨F, hF⟩ : ∃ F, fl[i]? = some F := ⟨fl[i]'(by have := HFl.out; omega), List.getElem?_eq_getElem _⟩
            have hFb := HFb.out F (List.mem_of_getElem? hF)
            obtain ⟨bF, oF, rfl, lF, hz⟩ := fr_at HRB.out hF
            have HLF := Lib.hid lF
            have hC0 : wr.drew.cell? ⟨bF, oF + i * 8, none⟩ = some (.int .u8 (F 0)) ∧ wr.drew.cell? ⟨bF, oF + i * 8 + 1, none⟩ = some (.int .u8 (F 1)) ∧ wr.drew.cell? ⟨bF, oF + i * 8 + 2, none⟩ = some (.int .u8 (F 2)) ∧ wr.drew.cell? ⟨bF, oF + i * 8 + 3, none⟩ = some (.int .u8 (F 3)) ∧ wr.drew.cell? ⟨bF, oF + i * 8 + 4, none⟩ = some (.int .u8 (F 4)) ∧ wr.drew.cell? ⟨bF, oF + i * 8 + 5, none⟩ = some (.int .u8 (F 5)) ∧ wr.drew.cell? ⟨bF, oF + i * 8 + 6, none⟩ = some (.int .u8 (F 6)) ∧ wr.drew.cell? ⟨bF, oF + i * 8 + 7, none⟩ = some (.int .u8 (F 7)) := by
              have x0 := hz 0 (by omega)
              have x1 := hz 1 (by omega)
              have x2 := hz 2 (by omega)
              have x3 := hz 3 (by omega)
              have x4 := hz 4 (by omega)
              have x5 := hz 5 (by omega)
              have x6 := hz 6 (by omega)
              have x7 := hz 7 (by omega)
              simp only [← Nat.add_assoc, Nat.add_zero] at x0 x1 x2 x3 x4 x5 x6 x7
              exact cells8_keep HSD.out.keep.drew lF id ⟨x0, x1, x2, x3, x4, x5, x6, x7⟩
            have HC8 := Lib.hid hC0
            obtain ⟨s2, d2, l2, hal2, hA2, hdA2, hdb2, hbg2, hl2, hcS, hcD⟩ := both HAL.out F hFb
            have HCS : Hid (∀ X, IsSnd X gs s → Calls Try.prog 9 #[.pointer (some ⟨gs, 0, none⟩), .agg #[.int .u8 (F 0), .int .u8 (F 1), .int .u8 (F 2), .int .u8 (F 3), .int .u8 (F 4), .int .u8 (F 5), .int .u8 (F 6), .int .u8 (F 7)]] X (OutS gs s2 l2 X)) := Lib.hid (fun X h => hcS X gs h)
            have HCD : Hid (∀ X, IsDoc X gd d → Calls Try.prog 13 #[.pointer (some ⟨gd, 0, none⟩), .agg #[.int .u8 (F 0), .int .u8 (F 1), .int .u8 (F 2), .int .u8 (F 3), .int .u8 (F 4), .int .u8 (F 5), .int .u8 (F 6), .int .u8 (F 7)]] X (OutD gd d2 l2 X)) := Lib.hid (fun X h => hcD X gd h)
            have HAL2 := Lib.hid hal2
            have HEq := Lib.hid (And.intro hA2 (And.intro hdA2 (And.intro hdb2 (And.intro hbg2 hl2))))
            have HGs : Hid (¬ Own.One gs bF) := Lib.hid (fun e => by have e' : bF = gs := e; have := HSD.out.low; have := HLF.out; omega)
            have HGd : Hid (¬ Own.One gd bF) := Lib.hid (fun e => by have e' : bF = gd := e; have := HSD.out.low; have := HSD.out.lt; have := HLF.out; omega)
            have HLr : Hid (bF < wr.drew.heap.size) := Lib.hid (Nat.lt_of_lt_of_le HLF.out HSD.out.keep.size)
            clear hal2 hA2 hdA2 hdb2 hbg2 hl2 hcS hcD hz hF hFb lF hC0
            go_wp2_with fail
            go_region_held3 (fun w' => w'.cell? ⟨bF, oF + i * 8, none⟩ = some (.int .u8 (F 0)) ∧ w'.cell? ⟨bF, oF + i * 8 + 1, none⟩ = some (.int .u8 (F 1)) ∧ w'.cell? ⟨bF, oF + i * 8 + 2, none⟩ = some (.int .u8 (F 2)) ∧ w'.cell? ⟨bF, oF + i * 8 + 3, none⟩ = some (.int .u8 (F 3)) ∧ w'.cell? ⟨bF, oF + i * 8 + 4, none⟩ = some (.int .u8 (F 4)) ∧ w'.cell? ⟨bF, oF + i * 8 + 5, none⟩ = some (.int .u8 (F 5)) ∧ w'.cell? ⟨bF, oF + i * 8 + 6, none⟩ = some (.int .u8 (F 6)) ∧ w'.cell? ⟨bF, oF + i * 8 + 7, none⟩ = some (.int .u8 (F 7))) (first | exact HC8.out | exact HC5.out | exact HC4.out | (go_keep; done)) (first
              | (go_at_call 9; refine (HCS.out _ (HSD.out.new ((Keep.refl Own.Zero wr).drew)).snd).mono ?_; rintro e w4 ⟨A4, c4, rfl, hp4⟩; have HP4 := hp4; clear hp4; have HSD4 := Lib.hid ((HSD.out.new ((Keep.refl Own.Zero wr).drew)).s_step HP4.out.1 HEq.out.1 HP4.out.2.2.2); have HC4 := Lib.hid (cells8_keep HP4.out.2.2.2 HLr.out HGs.out HC8.out); have HL4 := Lib.hid (Nat.lt_of_lt_of_le HLr.out HP4.out.2.2.2.size))
              | (go_at_call 13; refine (HCD.out _ HSD4.out.doc).mono ?_; rintro e w5 ⟨A5, c5, rfl, hp5⟩; have HP5 := hp5; clear hp5; have HSD5 := Lib.hid (HSD4.out.d_step HP5.out.1 HEq.out.2.1 HEq.out.2.2.1 HP5.out.2.2.2); have HC5 := Lib.hid (cells8_keep HP5.out.2.2.2 HL4.out HGd.out HC4.out); have HR4 := Lib.hid (HP4.out.2.1.keep HP5.out.2.2.2 (fun a ha hn e => by have e' : a.block = gd := e; have h1 := HP4.out.2.2.1 a ha; have h2 := HSD.out.doc.blk.lt; have h3 : wr.drew.heap.size = wr.heap.size := rfl; omega)))
              | (go_at_call 12; refine (same_true HR4.out HP5.out.2.1 rfl (by have := HEq.out.2.2.2.2; omega)).mono ?_; rintro e w6 ⟨rfl, m6, rfl⟩))
            go_wp2_with fail
            have HSD6 := Lib.hid (HSD5.out.new ((Keep.refl Own.Zero w5).drewN m6))
            refine (SDone_is HSD6.out.snd).mono ?_
            rintro e w7 ⟨rfl, hk7⟩
            have HSD7 := Lib.hid (HSD6.out.new hk7.out)
            have HAL3 := HAL2.out.2
            have d3 : w7.cell? ⟨gd, 3, none⟩ = some (.int .i64 d2.wait) := HSD7.out.doc.blk.cell 3
            have d4 : w7.cell? ⟨gd, 4, none⟩ = some (.int .u32 d2.code) := HSD7.out.doc.blk.cell 4
            clear hk7
            rcases HAL3 with hh | hh | hh | hh
            · rw [hh.2.1, hh.2.2.1]
              rw [hh.2.2.2.1] at d3
              rw [hh.2.2.2.2.1] at d4
              clear hh
              go_wp2_with fail
              go_roundg (nb - (i + 1))
              case measure => rw [HQ.out]; omega
              case rel => exact ⟨i + 1, s2, d2, by omega, rfl, by go_num, HSD7.out, HAL2.out, by rw [HEq.out.2.2.2.1]; exact HBg.out⟩
            · rw [hh.2.1, hh.2.2.2.1]
              rw [hh.2.2.2.2.1] at d3
              rw [hh.2.2.2.2.2.1] at d4
              clear hh
              go_wp2_with fail
              go_roundg (nb - (i + 1))
              case measure => rw [HQ.out]; omega
              case rel => exact ⟨i + 1, s2, d2, by omega, rfl, by go_num, HSD7.out, HAL2.out, by rw [HEq.out.2.2.2.1]; exact HBg.out⟩
            · rw [hh.2.1, hh.2.2.2.1]
              rw [hh.2.2.2.2.1] at d3
              rw [hh.2.2.2.2.2] at d4
              clear hh
              go_wp2_with fail
              go_roundg (nb - (i + 1))
              case measure => rw [HQ.out]; omega
              case rel => exact ⟨i + 1, s2, d2, by omega, rfl, by go_num, HSD7.out, HAL2.out, by rw [HEq.out.2.2.2.1]; exact HBg.out⟩
            · rw [hh.2.1, hh.2.2.2]
              rw [hh.2.2.1] at d3
              clear hh
              go_wp2_with fail
              go_roundg (nb - (i + 1))
              case measure => rw [HQ.out]; omega
              case rel => exact ⟨i + 1, s2, d2, by omega, rfl, by go_num, HSD7.out, HAL2.out, by rw [HEq.out.2.2.2.1]; exact HBg.out⟩
          · have hin : i = nb := by omega
            have hnl : ¬ (i : Int) < (nb : Int) := by omega
            clear hin hlt
            have HAt : Hid (s.at' = 0) := Lib.hid (by
              rcases HAL.out.2 with hh | hh | hh | hh
              · exact hh.2.2.2.2.2
              · rw [HBg.out] at hh; cases hh.1
              · rw [HBg.out] at hh; cases hh.1
              · rw [HBg.out] at hh; cases hh.1)
            obtain ⟨m9, hm9⟩ : ∃ m, m = min 1 (segs s.bs) := ⟨_, rfl⟩
            have hm90 : ¬ m9 = 0 := by have := (segs_bound s.bs).2.2; omega
            have hm91 : ¬ (m9 : Int) = 0 := by omega
            have HM9 := Lib.hid hm9
            clear hm9
            go_wp2_with fail
            refine (Begin_ok HSD.out.snd HBg.out HAt.out 1 (by decide) (by decide) m9 HM9.out).mono ?_
            rintro e w9 ⟨A9, c9, rfl, hp9⟩
            have HK9 : Hid (Keep Own.Zero w w9) := Lib.hid (HSD.out.keep.trans hp9.out.2.2 (fun k hk => .inr (by have e' : k = gs := hk; have := HSD.out.low; omega)))
            clear hp9
            go_wp2_with ((with_reducible refine (lives_is _).mono ?_); rintro e w4' ⟨rfl, hk4⟩)
            go_ret
            exact ⟨rfl, HK9.out.trans hk4.out (fun _ h => h.elim)⟩
    · obtain ⟨k, rfl⟩ : ∃ k : Nat, sz = k := ⟨sz.toNat, by omega⟩
      have k0 : 1 ≤ k := by omega
      have k1 : k ≤ 127 := by omega
      clear hsz
      obtain ⟨m, hm⟩ : ∃ m, m = min k (segs xs) := ⟨_, rfl⟩
      have HM := Lib.hid hm
      clear hm
      go_wp2_with fail
      rw [← HGd.out]
      refine (Begin_ok HS5.out.snd rfl rfl k k0 k1 m HM.out).mono ?_
      rintro e w6 ⟨A6, c6, rfl, hp6⟩
      have HP6 := hp6
      clear hp6
      have HS6 := Lib.hid (HS5.out.s_step HP6.out.1 rfl HP6.out.2.2)
      go_wp2_with fail
      refine (DBegin_ok HS6.out.doc rfl rfl k k0 k1 m HM.out).mono ?_
      rintro e w7 ⟨A7, c7, rfl, hp7⟩
      have HP7 := hp7
      clear hp7
      have HS7 := Lib.hid (HS6.out.d_step HP7.out.1 rfl rfl HP7.out.2.2)
      have HR6 : Hid (Row w7 A6 (cellsOf (framesF xs 0 m))) := Lib.hid (HP6.out.2.1.out.1.keep HP7.out.2.2 (fun a ha hn e => by
        have e' : a.block = gd := e
        have h1 := HP6.out.2.1.out.2 a ha
        have h2 := HS5.out.doc.blk.lt
        omega))
      go_wp2_with fail
      refine (same_true HR6.out HP7.out.2.1.out.1 (framesF_length _ _ _).symm (by have := HM.out; omega)).mono ?_
      rintro e w8 ⟨rfl, m8, rfl⟩
      have HS9 := Lib.hid (HS7.out.new ((Keep.refl Own.Zero w7).drewN m8))
      have HAl : Hid (Alike ⟨A3, c3, xs, 0, m, true, false, false, 0⟩ ⟨A, c, xs, 0, m, 1, 0⟩) := Lib.hid ⟨rfl, .inr (.inl ⟨rfl, rfl, rfl, rfl, rfl, rfl, rfl, rfl, by show 0 + m ≤ segs xs; have := HM.out; omega, by show m ≤ 127; have := HM.out; omega⟩)⟩
      clear HP6 HP7 HS5 HS6 HS7 HR6
      by_cases hnb : 3000 < nb
      · have hnb1 : (3000 : Int) < (nb : Int) := by omega
        obtain ⟨nc, hnc⟩ : ∃ nc : Nat, nc = 3000 := ⟨_, rfl⟩
        have HFl : Hid (nc ≤ fl.length) := Lib.hid (by rw [← HFl0.out]; omega)
        have hsl' : ∀ X, Sem.run Try.prog (Instr.slice 23 (.slice B nb q) none (some (.int .i64 3000)) none) X = .ok (.slice B nc q) X := fun X => by
          have := slice23_h B nb q nc (by omega) hlq X
          rw [hnc] at this ⊢
          exact this
        have hncb : nc ≤ 3000 := by omega
        clear hnc hlq hnb
        go_wp2_with fail
        go_loopg [14] nc (fun q s14 wr => ∃ i s d, i ≤ nc ∧ q = nc - i ∧ s14 = .int .i64 (i : Nat) ∧ SD w wr gs gd s d ∧ Alike s d ∧ s.begun = true)
        case atStart => exact ⟨0, _, _, Nat.zero_le _, rfl, rfl, HS9.out, HAl.out, rfl⟩
        case round =>
          obtain ⟨i, s, d, hi, hq, rfl, hsd, hal, hbg⟩ := hrel
          have HQ := Lib.hid hq
          have HSD := Lib.hid hsd
          have HAL := Lib.hid hal
          have HBg := Lib.hid hbg
          clear hq hsd hal hbg
          by_cases hlt : i < nc
          · have h1 : (i : Int) < (nc : Int) := by omega
            have h0 : (0 : Int) ≤ (i : Int) := by omega
            obtain ⟨F, hF⟩ : ∃ F, fl[i]? = some F := ⟨fl[i]'(by have := HFl.out; omega), List.getElem?_eq_getElem _⟩
            have hFb := HFb.out F (List.mem_of_getElem? hF)
            obtain ⟨bF, oF, rfl, lF, hz⟩ := fr_at HRB.out hF
            have HLF := Lib.hid lF
            have hC0 : wr.drew.cell? ⟨bF, oF + i * 8, none⟩ = some (.int .u8 (F 0)) ∧ wr.drew.cell? ⟨bF, oF + i * 8 + 1, none⟩ = some (.int .u8 (F 1)) ∧ wr.drew.cell? ⟨bF, oF + i * 8 + 2, none⟩ = some (.int .u8 (F 2)) ∧ wr.drew.cell? ⟨bF, oF + i * 8 + 3, none⟩ = some (.int .u8 (F 3)) ∧ wr.drew.cell? ⟨bF, oF + i * 8 + 4, none⟩ = some (.int .u8 (F 4)) ∧ wr.drew.cell? ⟨bF, oF + i * 8 + 5, none⟩ = some (.int .u8 (F 5)) ∧ wr.drew.cell? ⟨bF, oF + i * 8 + 6, none⟩ = some (.int .u8 (F 6)) ∧ wr.drew.cell? ⟨bF, oF + i * 8 + 7, none⟩ = some (.int .u8 (F 7)) := by
              have x0 := hz 0 (by omega)
              have x1 := hz 1 (by omega)
              have x2 := hz 2 (by omega)
              have x3 := hz 3 (by omega)
              have x4 := hz 4 (by omega)
              have x5 := hz 5 (by omega)
              have x6 := hz 6 (by omega)
              have x7 := hz 7 (by omega)
              simp only [← Nat.add_assoc, Nat.add_zero] at x0 x1 x2 x3 x4 x5 x6 x7
              exact cells8_keep HSD.out.keep.drew lF id ⟨x0, x1, x2, x3, x4, x5, x6, x7⟩
            have HC8 := Lib.hid hC0
            obtain ⟨s2, d2, l2, hal2, hA2, hdA2, hdb2, hbg2, hl2, hcS, hcD⟩ := both HAL.out F hFb
            have HCS : Hid (∀ X, IsSnd X gs s → Calls Try.prog 9 #[.pointer (some ⟨gs, 0, none⟩), .agg #[.int .u8 (F 0), .int .u8 (F 1), .int .u8 (F 2), .int .u8 (F 3), .int .u8 (F 4), .int .u8 (F 5), .int .u8 (F 6), .int .u8 (F 7)]] X (OutS gs s2 l2 X)) := Lib.hid (fun X h => hcS X gs h)
            have HCD : Hid (∀ X, IsDoc X gd d → Calls Try.prog 13 #[.pointer (some ⟨gd, 0, none⟩), .agg #[.int .u8 (F 0), .int .u8 (F 1), .int .u8 (F 2), .int .u8 (F 3), .int .u8 (F 4), .int .u8 (F 5), .int .u8 (F 6), .int .u8 (F 7)]] X (OutD gd d2 l2 X)) := Lib.hid (fun X h => hcD X gd h)
            have HAL2 := Lib.hid hal2
            have HEq := Lib.hid (And.intro hA2 (And.intro hdA2 (And.intro hdb2 (And.intro hbg2 hl2))))
            have HGs : Hid (¬ Own.One gs bF) := Lib.hid (fun e => by have e' : bF = gs := e; have := HSD.out.low; have := HLF.out; omega)
            have HGd : Hid (¬ Own.One gd bF) := Lib.hid (fun e => by have e' : bF = gd := e; have := HSD.out.low; have := HSD.out.lt; have := HLF.out; omega)
            have HLr : Hid (bF < wr.drew.heap.size) := Lib.hid (Nat.lt_of_lt_of_le HLF.out HSD.out.keep.size)
            clear hal2 hA2 hdA2 hdb2 hbg2 hl2 hcS hcD hz hF hFb lF hC0
            go_wp2_with fail
            go_region_held3 (fun w' => w'.cell? ⟨bF, oF + i * 8, none⟩ = some (.int .u8 (F 0)) ∧ w'.cell? ⟨bF, oF + i * 8 + 1, none⟩ = some (.int .u8 (F 1)) ∧ w'.cell? ⟨bF, oF + i * 8 + 2, none⟩ = some (.int .u8 (F 2)) ∧ w'.cell? ⟨bF, oF + i * 8 + 3, none⟩ = some (.int .u8 (F 3)) ∧ w'.cell? ⟨bF, oF + i * 8 + 4, none⟩ = some (.int .u8 (F 4)) ∧ w'.cell? ⟨bF, oF + i * 8 + 5, none⟩ = some (.int .u8 (F 5)) ∧ w'.cell? ⟨bF, oF + i * 8 + 6, none⟩ = some (.int .u8 (F 6)) ∧ w'.cell? ⟨bF, oF + i * 8 + 7, none⟩ = some (.int .u8 (F 7))) (first | exact HC8.out | exact HC5.out | exact HC4.out | (go_keep; done)) (first
              | (go_at_call 9; refine (HCS.out _ (HSD.out.new ((Keep.refl Own.Zero wr).drew)).snd).mono ?_; rintro e w4 ⟨A4, c4, rfl, hp4⟩; have HP4 := hp4; clear hp4; have HSD4 := Lib.hid ((HSD.out.new ((Keep.refl Own.Zero wr).drew)).s_step HP4.out.1 HEq.out.1 HP4.out.2.2.2); have HC4 := Lib.hid (cells8_keep HP4.out.2.2.2 HLr.out HGs.out HC8.out); have HL4 := Lib.hid (Nat.lt_of_lt_of_le HLr.out HP4.out.2.2.2.size))
              | (go_at_call 13; refine (HCD.out _ HSD4.out.doc).mono ?_; rintro e w5 ⟨A5, c5, rfl, hp5⟩; have HP5 := hp5; clear hp5; have HSD5 := Lib.hid (HSD4.out.d_step HP5.out.1 HEq.out.2.1 HEq.out.2.2.1 HP5.out.2.2.2); have HC5 := Lib.hid (cells8_keep HP5.out.2.2.2 HL4.out HGd.out HC4.out); have HR4 := Lib.hid (HP4.out.2.1.keep HP5.out.2.2.2 (fun a ha hn e => by have e' : a.block = gd := e; have h1 := HP4.out.2.2.1 a ha; have h2 := HSD.out.doc.blk.lt; have h3 : wr.drew.heap.size = wr.heap.size := rfl; omega)))
              | (go_at_call 12; refine (same_true HR4.out HP5.out.2.1 rfl (by have := HEq.out.2.2.2.2; omega)).mono ?_; rintro e w6 ⟨rfl, m6, rfl⟩))
            go_wp2_with fail
            have HSD6 := Lib.hid (HSD5.out.new ((Keep.refl Own.Zero w5).drewN m6))
            refine (SDone_is HSD6.out.snd).mono ?_
            rintro e w7 ⟨rfl, hk7⟩
            have HSD7 := Lib.hid (HSD6.out.new hk7.out)
            have HAL3 := HAL2.out.2
            have d3 : w7.cell? ⟨gd, 3, none⟩ = some (.int .i64 d2.wait) := HSD7.out.doc.blk.cell 3
            have d4 : w7.cell? ⟨gd, 4, none⟩ = some (.int .u32 d2.code) := HSD7.out.doc.blk.cell 4
            clear hk7
            rcases HAL3 with hh | hh | hh | hh
            · rw [hh.2.1, hh.2.2.1]
              rw [hh.2.2.2.1] at d3
              rw [hh.2.2.2.2.1] at d4
              clear hh
              go_wp2_with fail
              go_roundg (nc - (i + 1))
              case measure => rw [HQ.out]; omega
              case rel => exact ⟨i + 1, s2, d2, by omega, rfl, by go_num, HSD7.out, HAL2.out, by rw [HEq.out.2.2.2.1]; exact HBg.out⟩
            · rw [hh.2.1, hh.2.2.2.1]
              rw [hh.2.2.2.2.1] at d3
              rw [hh.2.2.2.2.2.1] at d4
              clear hh
              go_wp2_with fail
              go_roundg (nc - (i + 1))
              case measure => rw [HQ.out]; omega
              case rel => exact ⟨i + 1, s2, d2, by omega, rfl, by go_num, HSD7.out, HAL2.out, by rw [HEq.out.2.2.2.1]; exact HBg.out⟩
            · rw [hh.2.1, hh.2.2.2.1]
              rw [hh.2.2.2.2.1] at d3
              rw [hh.2.2.2.2.2] at d4
              clear hh
              go_wp2_with fail
              go_roundg (nc - (i + 1))
              case measure => rw [HQ.out]; omega
              case rel => exact ⟨i + 1, s2, d2, by omega, rfl, by go_num, HSD7.out, HAL2.out, by rw [HEq.out.2.2.2.1]; exact HBg.out⟩
            · rw [hh.2.1, hh.2.2.2]
              rw [hh.2.2.1] at d3
              clear hh
              go_wp2_with fail
              go_roundg (nc - (i + 1))
              case measure => rw [HQ.out]; omega
              case rel => exact ⟨i + 1, s2, d2, by omega, rfl, by go_num, HSD7.out, HAL2.out, by rw [HEq.out.2.2.2.1]; exact HBg.out⟩
          · have hin : i = nc := by omega
            have hnl : ¬ (i : Int) < (nc : Int) := by omega
            clear hin hlt
            go_wp2_with fail
            refine (Begin_again HSD.out.snd HBg.out 1).mono ?_
            rintro e w' ⟨rfl, rfl⟩
            go_wp2_with ((with_reducible refine (lives_is _).mono ?_); rintro e w4' ⟨rfl, hk4⟩)
            go_ret
            exact ⟨rfl, HSD.out.keep.trans hk4.out (fun _ h => h.elim)⟩
      · have hnb1 : ¬ (3000 : Int) < (nb : Int) := by omega
        have HFl : Hid (nb ≤ fl.length) := Lib.hid (Nat.le_of_eq HFl0.out)
        go_wp2_with fail
        go_loopg [14] nb (fun q s14 wr => ∃ i s d, i ≤ nb ∧ q = nb - i ∧ s14 = .int .i64 (i : Nat) ∧ SD w wr gs gd s d ∧ Alike s d ∧ s.begun = true)
        case atStart => exact ⟨0, _, _, Nat.zero_le _, rfl, rfl, HS9.out, HAl.out, rfl⟩
        case round =>
          obtain ⟨i, s, d, hi, hq, rfl, hsd, hal, hbg⟩ := hrel
          have HQ := Lib.hid hq
          have HSD := Lib.hid hsd
          have HAL := Lib.hid hal
          have HBg := Lib.hid hbg
          clear hq hsd hal hbg
          by_cases hlt : i < nb
          · have h1 : (i : Int) < (nb : Int) := by omega
            have h0 : (0 : Int) ≤ (i : Int) := by omega
            obtain ⟨F, hF⟩ : ∃ F, fl[i]? = some F := ⟨fl[i]'(by have := HFl.out; omega), List.getElem?_eq_getElem _⟩
            have hFb := HFb.out F (List.mem_of_getElem? hF)
            obtain ⟨bF, oF, rfl, lF, hz⟩ := fr_at HRB.out hF
            have HLF := Lib.hid lF
            have hC0 : wr.drew.cell? ⟨bF, oF + i * 8, none⟩ = some (.int .u8 (F 0)) ∧ wr.drew.cell? ⟨bF, oF + i * 8 + 1, none⟩ = some (.int .u8 (F 1)) ∧ wr.drew.cell? ⟨bF, oF + i * 8 + 2, none⟩ = some (.int .u8 (F 2)) ∧ wr.drew.cell? ⟨bF, oF + i * 8 + 3, none⟩ = some (.int .u8 (F 3)) ∧ wr.drew.cell? ⟨bF, oF + i * 8 + 4, none⟩ = some (.int .u8 (F 4)) ∧ wr.drew.cell? ⟨bF, oF + i * 8 + 5, none⟩ = some (.int .u8 (F 5)) ∧ wr.drew.cell? ⟨bF, oF + i * 8 + 6, none⟩ = some (.int .u8 (F 6)) ∧ wr.drew.cell? ⟨bF, oF + i * 8 + 7, none⟩ = some (.int .u8 (F 7)) := by
              have x0 := hz 0 (by omega)
              have x1 := hz 1 (by omega)
              have x2 := hz 2 (by omega)
              have x3 := hz 3 (by omega)
              have x4 := hz 4 (by omega)
              have x5 := hz 5 (by omega)
              have x6 := hz 6 (by omega)
              have x7 := hz 7 (by omega)
              simp only [← Nat.add_assoc, Nat.add_zero] at x0 x1 x2 x3 x4 x5 x6 x7
              exact cells8_keep HSD.out.keep.drew lF id ⟨x0, x1, x2, x3, x4, x5, x6, x7⟩
            have HC8 := Lib.hid hC0
            obtain ⟨s2, d2, l2, hal2, hA2, hdA2, hdb2, hbg2, hl2, hcS, hcD⟩ := both HAL.out F hFb
            have HCS : Hid (∀ X, IsSnd X gs s → Calls Try.prog 9 #[.pointer (some ⟨gs, 0, none⟩), .agg #[.int .u8 (F 0), .int .u8 (F 1), .int .u8 (F 2), .int .u8 (F 3), .int .u8 (F 4), .int .u8 (F 5), .int .u8 (F 6), .int .u8 (F 7)]] X (OutS gs s2 l2 X)) := Lib.hid (fun X h => hcS X gs h)
            have HCD : Hid (∀ X, IsDoc X gd d → Calls Try.prog 13 #[.pointer (some ⟨gd, 0, none⟩), .agg #[.int .u8 (F 0), .int .u8 (F 1), .int .u8 (F 2), .int .u8 (F 3), .int .u8 (F 4), .int .u8 (F 5), .int .u8 (F 6), .int .u8 (F 7)]] X (OutD gd d2 l2 X)) := Lib.hid (fun X h => hcD X gd h)
            have HAL2 := Lib.hid hal2
            have HEq := Lib.hid (And.intro hA2 (And.intro hdA2 (And.intro hdb2 (And.intro hbg2 hl2))))
            have HGs : Hid (¬ Own.One gs bF) := Lib.hid (fun e => by have e' : bF = gs := e; have := HSD.out.low; have := HLF.out; omega)
            have HGd : Hid (¬ Own.One gd bF) := Lib.hid (fun e => by have e' : bF = gd := e; have := HSD.out.low; have := HSD.out.lt; have := HLF.out; omega)
            have HLr : Hid (bF < wr.drew.heap.size) := Lib.hid (Nat.lt_of_lt_of_le HLF.out HSD.out.keep.size)
            clear hal2 hA2 hdA2 hdb2 hbg2 hl2 hcS hcD hz hF hFb lF hC0
            go_wp2_with fail
            go_region_held3 (fun w' => w'.cell? ⟨bF, oF + i * 8, none⟩ = some (.int .u8 (F 0)) ∧ w'.cell? ⟨bF, oF + i * 8 + 1, none⟩ = some (.int .u8 (F 1)) ∧ w'.cell? ⟨bF, oF + i * 8 + 2, none⟩ = some (.int .u8 (F 2)) ∧ w'.cell? ⟨bF, oF + i * 8 + 3, none⟩ = some (.int .u8 (F 3)) ∧ w'.cell? ⟨bF, oF + i * 8 + 4, none⟩ = some (.int .u8 (F 4)) ∧ w'.cell? ⟨bF, oF + i * 8 + 5, none⟩ = some (.int .u8 (F 5)) ∧ w'.cell? ⟨bF, oF + i * 8 + 6, none⟩ = some (.int .u8 (F 6)) ∧ w'.cell? ⟨bF, oF + i * 8 + 7, none⟩ = some (.int .u8 (F 7))) (first | exact HC8.out | exact HC5.out | exact HC4.out | (go_keep; done)) (first
              | (go_at_call 9; refine (HCS.out _ (HSD.out.new ((Keep.refl Own.Zero wr).drew)).snd).mono ?_; rintro e w4 ⟨A4, c4, rfl, hp4⟩; have HP4 := hp4; clear hp4; have HSD4 := Lib.hid ((HSD.out.new ((Keep.refl Own.Zero wr).drew)).s_step HP4.out.1 HEq.out.1 HP4.out.2.2.2); have HC4 := Lib.hid (cells8_keep HP4.out.2.2.2 HLr.out HGs.out HC8.out); have HL4 := Lib.hid (Nat.lt_of_lt_of_le HLr.out HP4.out.2.2.2.size))
              | (go_at_call 13; refine (HCD.out _ HSD4.out.doc).mono ?_; rintro e w5 ⟨A5, c5, rfl, hp5⟩; have HP5 := hp5; clear hp5; have HSD5 := Lib.hid (HSD4.out.d_step HP5.out.1 HEq.out.2.1 HEq.out.2.2.1 HP5.out.2.2.2); have HC5 := Lib.hid (cells8_keep HP5.out.2.2.2 HL4.out HGd.out HC4.out); have HR4 := Lib.hid (HP4.out.2.1.keep HP5.out.2.2.2 (fun a ha hn e => by have e' : a.block = gd := e; have h1 := HP4.out.2.2.1 a ha; have h2 := HSD.out.doc.blk.lt; have h3 : wr.drew.heap.size = wr.heap.size := rfl; omega)))
              | (go_at_call 12; refine (same_true HR4.out HP5.out.2.1 rfl (by have := HEq.out.2.2.2.2; omega)).mono ?_; rintro e w6 ⟨rfl, m6, rfl⟩))
            go_wp2_with fail
            have HSD6 := Lib.hid (HSD5.out.new ((Keep.refl Own.Zero w5).drewN m6))
            refine (SDone_is HSD6.out.snd).mono ?_
            rintro e w7 ⟨rfl, hk7⟩
            have HSD7 := Lib.hid (HSD6.out.new hk7.out)
            have HAL3 := HAL2.out.2
            have d3 : w7.cell? ⟨gd, 3, none⟩ = some (.int .i64 d2.wait) := HSD7.out.doc.blk.cell 3
            have d4 : w7.cell? ⟨gd, 4, none⟩ = some (.int .u32 d2.code) := HSD7.out.doc.blk.cell 4
            clear hk7
            rcases HAL3 with hh | hh | hh | hh
            · rw [hh.2.1, hh.2.2.1]
              rw [hh.2.2.2.1] at d3
              rw [hh.2.2.2.2.1] at d4
              clear hh
              go_wp2_with fail
              go_roundg (nb - (i + 1))
              case measure => rw [HQ.out]; omega
              case rel => exact ⟨i + 1, s2, d2, by omega, rfl, by go_num, HSD7.out, HAL2.out, by rw [HEq.out.2.2.2.1]; exact HBg.out⟩
            · rw [hh.2.1, hh.2.2.2.1]
              rw [hh.2.2.2.2.1] at d3
              rw [hh.2.2.2.2.2.1] at d4
              clear hh
              go_wp2_with fail
              go_roundg (nb - (i + 1))
              case measure => rw [HQ.out]; omega
              case rel => exact ⟨i + 1, s2, d2, by omega, rfl, by go_num, HSD7.out, HAL2.out, by rw [HEq.out.2.2.2.1]; exact HBg.out⟩
            · rw [hh.2.1, hh.2.2.2.1]
              rw [hh.2.2.2.2.1] at d3
              rw [hh.2.2.2.2.2] at d4
              clear hh
              go_wp2_with fail
              go_roundg (nb - (i + 1))
              case measure => rw [HQ.out]; omega
              case rel => exact ⟨i + 1, s2, d2, by omega, rfl, by go_num, HSD7.out, HAL2.out, by rw [HEq.out.2.2.2.1]; exact HBg.out⟩
            · rw [hh.2.1, hh.2.2.2]
              rw [hh.2.2.1] at d3
              clear hh
              go_wp2_with fail
              go_roundg (nb - (i + 1))
              case measure => rw [HQ.out]; omega
              case rel => exact ⟨i + 1, s2, d2, by omega, rfl, by go_num, HSD7.out, HAL2.out, by rw [HEq.out.2.2.2.1]; exact HBg.out⟩
          · have hin : i = nb := by omega
            have hnl : ¬ (i : Int) < (nb : Int) := by omega
            clear hin hlt
            go_wp2_with fail
            refine (Begin_again HSD.out.snd HBg.out 1).mono ?_
            rintro e w' ⟨rfl, rfl⟩
            go_wp2_with ((with_reducible refine (lives_is _).mono ?_); rintro e w4' ⟨rfl, hk4⟩)
            go_ret
            exact ⟨rfl, HSD.out.keep.trans hk4.out (fun _ h => h.elim)⟩
end Go.Proofs.Ytdmomhbimhggiaa.Block
