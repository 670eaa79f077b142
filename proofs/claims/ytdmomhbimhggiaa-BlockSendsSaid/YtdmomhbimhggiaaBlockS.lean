/- The document's sender: the calls that go on; what is refused. -/
import Derived.Test.YtdmomhbimhggiaaBlockR
namespace Go.Proofs.Ytdmomhbimhggiaa.Block
open Go.RowKit Go.Proofs.Ytdmomhbimhggiaa.Own Go.Proofs.Ytdmomhbimhggiaa.Crc
set_option maxRecDepth 100000 in
set_option maxHeartbeats 4000000 in
/-- A block is told, and there are more. -/
theorem DFeed_more {w : World} {g : Nat} {d : Doc} (h : IsDoc w g d) (hw : d.wait = 1) (j k : Nat) (x3 x4 x5 x6 x7 : Int) (hj : j ≤ d.many) (hj2 : j ≤ 127) (k0 : 1 ≤ k) (k1 : k ≤ 127) (hat : d.at' + j < segs d.bs) (m : Nat) (hm : m = min k (segs d.bs - (d.at' + j))) :
    Calls Try.prog 13 #[.pointer (some ⟨g, 0, none⟩), .agg #[.int .u8 162, .int .u8 j, .int .u8 k, .int .u8 x3, .int .u8 x4, .int .u8 x5, .int .u8 x6, .int .u8 x7]] w fun e w' => ∃ A c, e = .returned (.slice A m c) ∧ Hid (IsDoc w' g { d with at' := d.at' + j, many := m } ∧ FrAt w' w.heap.size A m c (framesF d.bs (d.at' + j) m) ∧ Keep (Own.One g) w w') := by
  have HM := Lib.hid hm
  clear hm
  have HAt := Lib.hid hat
  have H := Lib.hid h
  have hgl := h.blk.lt
  obtain ⟨p, hp⟩ : ∃ p, p = d.at' := ⟨_, rfl⟩
  obtain ⟨n, hn⟩ : ∃ n, n = segs d.bs := ⟨_, rfl⟩
  have HN := Lib.hid hn
  have HPp := Lib.hid hp
  have hnb : n ≤ 10000 := by have := h.big; rw [hn]; unfold segs; omega
  obtain ⟨M, hM⟩ : ∃ M, M = d.many := ⟨_, rfl⟩
  have hpn : p + j ≤ n := by omega
  have c1 : ∀ o, (w.alloc o).cell? ⟨g, 1, none⟩ = some (.int .i64 p) := fun o => by rw [hp]; exact (h.blk.alloc o).cell 1
  have f1 : ∀ o, (w.alloc o).frozen? ⟨g, 1, none⟩ = false := fun o => (h.blk.alloc o).frozen 1
  have c2 : ∀ o, (w.alloc o).cell? ⟨g, 2, none⟩ = some (.int .i64 M) := fun o => by rw [hM]; exact (h.blk.alloc o).cell 2
  have c3 : ∀ o, (w.alloc o).cell? ⟨g, 3, none⟩ = some (.int .i64 1) := fun o => by
    have e := (h.blk.alloc o).cell 3
    simp only [Doc.cells, hw] at e
    exact e
  have b2 : ¬ (k : Int) = 0 := by omega
  have b2n : ¬ k = 0 := by omega
  have b2b : ((k : Int) == 0) = false := by simp; omega
  have b3 : ¬ (127 : Int) < (k : Int) := by omega
  have b4 : ((p : Int) + (j : Int) < (n : Int)) := by omega
  have b5 : ¬ (M : Int) < (j : Int) := by omega
  have hwp : IntKind.i64.wrap ((p : Int) + (j : Int)) = (p : Int) + (j : Int) := IntWalk.i64_in _ (by omega)
  clear h hw hat hn hp hM
  go_enter Try.func13, Try.ntmps13
  go_wp2_with fail
  go_quiet (fail)
  go_wp2_with fail
  go_region
  obtain ⟨W2, hW2⟩ : ∃ x, x = ((w.alloc (.cells #[.int .u8 162, .int .u8 j, .int .u8 k, .int .u8 x3, .int .u8 x4, .int .u8 x5, .int .u8 x6, .int .u8 x7] 30)).drewN (nq + 1)).setCell ⟨g, 1, none⟩ (.int .i64 ((p : Int) + (j : Int))) := ⟨_, rfl⟩
  have HS2 : Hid (IsDoc W2 g { d with at' := d.at' + j }) := Lib.hid (by
    rw [hW2, HPp.out]
    exact ((H.out.alloc _).keep ((Keep.refl Own.Zero _).drewN _) id (fun _ _ _ => id)).put 1 _ _ (by simp [Doc.cells]) rfl rfl rfl (by show d.at' + j ≤ 100000; rw [← HPp.out]; omega))
  have K2 : Hid (Keep (Own.One g) w W2) := Lib.hid (by
    rw [hW2]
    exact (((Keep.refl (Own.One g) w).alloc _).drewN _).set1 1 _)
  have y2 : W2.cell? ⟨w.heap.size, 2, none⟩ = some (.int .u8 k) := by
    rw [hW2]
    have hb : Blk (w.alloc (.cells #[.int .u8 162, .int .u8 j, .int .u8 k, .int .u8 x3, .int .u8 x4, .int .u8 x5, .int .u8 x6, .int .u8 x7] 30)) w.heap.size #[.int .u8 162, .int .u8 j, .int .u8 k, .int .u8 x3, .int .u8 x4, .int .u8 x5, .int .u8 x6, .int .u8 x7] 30 := Blk.new w _ _
    exact ((hb.drewN _).far (p := ⟨g, 1, none⟩) (by show g ≠ w.heap.size; omega) _).cell 2
  have e1 : W2.cell? ⟨g, 1, none⟩ = some (.int .i64 ((p : Int) + (j : Int))) := by
    have h : W2.cell? ⟨g, 1, none⟩ = some (.int .i64 ((d.at' + j : Nat) : Int)) := HS2.out.blk.cell 1
    rw [HPp.out, h]
    simp
  rw [← hW2]
  clear hW2 c1 f1 c2 c3
  go_wp2_with fail
  go_quiet ((go_at_call 29; exact quiet_eq (All_is (HS2.out.keep ((Keep.refl Own.Zero _).drewN _) id (fun _ _ _ => id)) n HN.out)))
  go_wp2_with fail
  refine (block_any (HS2.out.keep ((Keep.refl Own.Zero _).drewN _) id (fun _ _ _ => id)) k k0 k1 HAt.out m HM.out).mono ?_
  rintro e w' ⟨A, c, rfl, hp⟩
  have HP := hp
  clear hp
  go_wp2_with fail
  go_ret
  exact ⟨A, c, rfl, Lib.hid ⟨HP.out.1, own_mono HP.out.2.1 K2.out.size, K2.out.trans (keep_q HP.out.2.2) (fun k hk => .inl hk)⟩⟩
set_option maxRecDepth 100000 in
set_option maxHeartbeats 4000000 in
/-- The last block is told. -/
theorem DFeed_end {w : World} {g : Nat} {d : Doc} (h : IsDoc w g d) (hw : d.wait = 1) (j k : Nat) (x3 x4 x5 x6 x7 : Int) (hj : j ≤ d.many) (hj2 : j ≤ 127) (k0 : 1 ≤ k) (k1 : k ≤ 127) (hat : d.at' + j = segs d.bs) :
    Calls Try.prog 13 #[.pointer (some ⟨g, 0, none⟩), .agg #[.int .u8 162, .int .u8 j, .int .u8 k, .int .u8 x3, .int .u8 x4, .int .u8 x5, .int .u8 x6, .int .u8 x7]] w fun e w' => ∃ A c, e = .returned (.slice A 1 c) ∧ Hid (IsDoc w' g { d with at' := d.at' + j, wait := 2 } ∧ FrAt w' w.heap.size A 1 c [endF d.bs] ∧ Keep (Own.One g) w w') := by
  have HWt := Lib.hid hw
  have H := Lib.hid h
  have hgl := h.blk.lt
  obtain ⟨p, hp⟩ : ∃ p, p = d.at' := ⟨_, rfl⟩
  obtain ⟨n, hn⟩ : ∃ n, n = segs d.bs := ⟨_, rfl⟩
  have HN := Lib.hid hn
  have HPp := Lib.hid hp
  have hnb : n ≤ 10000 := by have := h.big; rw [hn]; unfold segs; omega
  obtain ⟨M, hM⟩ : ∃ M, M = d.many := ⟨_, rfl⟩
  have hpn : p + j ≤ n := by omega
  have c1 : ∀ o, (w.alloc o).cell? ⟨g, 1, none⟩ = some (.int .i64 p) := fun o => by rw [hp]; exact (h.blk.alloc o).cell 1
  have f1 : ∀ o, (w.alloc o).frozen? ⟨g, 1, none⟩ = false := fun o => (h.blk.alloc o).frozen 1
  have c2 : ∀ o, (w.alloc o).cell? ⟨g, 2, none⟩ = some (.int .i64 M) := fun o => by rw [hM]; exact (h.blk.alloc o).cell 2
  have c3 : ∀ o, (w.alloc o).cell? ⟨g, 3, none⟩ = some (.int .i64 1) := fun o => by
    have e := (h.blk.alloc o).cell 3
    simp only [Doc.cells, hw] at e
    exact e
  have b2 : ¬ (k : Int) = 0 := by omega
  have b2n : ¬ k = 0 := by omega
  have b2b : ((k : Int) == 0) = false := by simp; omega
  have b3 : ¬ (127 : Int) < (k : Int) := by omega
  have b4 : ¬ ((p : Int) + (j : Int) < (n : Int)) := by omega
  have b5 : ¬ (M : Int) < (j : Int) := by omega
  have hwp : IntKind.i64.wrap ((p : Int) + (j : Int)) = (p : Int) + (j : Int) := IntWalk.i64_in _ (by omega)
  clear h hw hat hn hp hM
  go_enter Try.func13, Try.ntmps13
  go_wp2_with fail
  go_quiet (fail)
  go_wp2_with fail
  go_region
  obtain ⟨W2, hW2⟩ : ∃ x, x = ((w.alloc (.cells #[.int .u8 162, .int .u8 j, .int .u8 k, .int .u8 x3, .int .u8 x4, .int .u8 x5, .int .u8 x6, .int .u8 x7] 30)).drewN (nq + 1)).setCell ⟨g, 1, none⟩ (.int .i64 ((p : Int) + (j : Int))) := ⟨_, rfl⟩
  have HS2 : Hid (IsDoc W2 g { d with at' := d.at' + j }) := Lib.hid (by
    rw [hW2, HPp.out]
    exact ((H.out.alloc _).keep ((Keep.refl Own.Zero _).drewN _) id (fun _ _ _ => id)).put 1 _ _ (by simp [Doc.cells]) rfl rfl rfl (by show d.at' + j ≤ 100000; rw [← HPp.out]; omega))
  have K2 : Hid (Keep (Own.One g) w W2) := Lib.hid (by
    rw [hW2]
    exact (((Keep.refl (Own.One g) w).alloc _).drewN _).set1 1 _)
  have y2 : W2.cell? ⟨w.heap.size, 2, none⟩ = some (.int .u8 k) := by
    rw [hW2]
    have hb : Blk (w.alloc (.cells #[.int .u8 162, .int .u8 j, .int .u8 k, .int .u8 x3, .int .u8 x4, .int .u8 x5, .int .u8 x6, .int .u8 x7] 30)) w.heap.size #[.int .u8 162, .int .u8 j, .int .u8 k, .int .u8 x3, .int .u8 x4, .int .u8 x5, .int .u8 x6, .int .u8 x7] 30 := Blk.new w _ _
    exact ((hb.drewN _).far (p := ⟨g, 1, none⟩) (by show g ≠ w.heap.size; omega) _).cell 2
  have e1 : W2.cell? ⟨g, 1, none⟩ = some (.int .i64 ((p : Int) + (j : Int))) := by
    have h : W2.cell? ⟨g, 1, none⟩ = some (.int .i64 ((d.at' + j : Nat) : Int)) := HS2.out.blk.cell 1
    rw [HPp.out, h]
    simp
  rw [← hW2]
  clear hW2 c1 f1 c2 c3
  go_wp2_with fail
  go_quiet ((go_at_call 29; exact quiet_eq (All_is (HS2.out.keep ((Keep.refl Own.Zero _).drewN _) id (fun _ _ _ => id)) n HN.out)))
  have hq : ∀ m, IsDoc (W2.drewN m) g { d with at' := d.at' + j } := fun m => HS2.out.keep ((Keep.refl Own.Zero _).drewN _) id (fun _ _ _ => id)
  have HQ := Lib.hid hq
  have e0 : ∀ m, (W2.drewN m).cell? ⟨g, 0, none⟩ = some (.slice d.A d.bs.length d.cap) := fun m => (hq m).blk.cell 0
  have e3 : ∀ m, (W2.drewN m).cell? ⟨g, 3, none⟩ = some (.int .i64 1) := fun m => by
    have e := (hq m).blk.cell 3
    simp only [Doc.cells, HWt.out] at e
    exact e
  have f3 : ∀ m, (W2.drewN m).frozen? ⟨g, 3, none⟩ = false := fun m => (hq m).blk.frozen 3
  clear hq
  go_wp2_with fail
  obtain ⟨W3, hW3⟩ : ∃ x, x = (W2.drewN nq).setCell ⟨g, 3, none⟩ (.int .i64 2) := ⟨_, rfl⟩
  rw [← hW3]
  have HS3 : Hid (IsDoc W3 g { d with at' := d.at' + j, wait := 2 }) := Lib.hid (by
    rw [hW3]
    exact (HQ.out nq).put 3 _ _ (by simp [Doc.cells]) rfl rfl rfl HS2.out.atb)
  have K3 : Hid (Keep (Own.One g) w W3) := Lib.hid (by
    rw [hW3]
    exact (K2.out.drewN _).set1 3 _)
  have e4 : W3.cell? ⟨g, 0, none⟩ = some (.slice d.A d.bs.length d.cap) := HS3.out.blk.cell 0
  clear hW3 e0 e3 f3 e1 y2
  refine (RCRC16_any d.A d.cap d.bs HS3.out.inb.row HS3.out.inb.byte (by have := HS3.out.big; simp only at this; omega)).mono ?_
  rintro e w' ⟨rfl, rfl⟩
  obtain ⟨cr, hcr⟩ : ∃ cr, cr = crc d.bs := ⟨_, rfl⟩
  have hcr1 : cr < 65536 := by rw [hcr]; exact crc_lt HS3.out.inb.byte
  have HCr := Lib.hid hcr
  rw [← hcr]
  obtain ⟨L, hL⟩ : ∃ L, L = d.bs.length := ⟨_, rfl⟩
  have hLn : L ≤ 7 * n ∧ 7 * n ≤ L + 7 ∧ L ≤ 65536 := by
    refine ⟨?_, ?_, ?_⟩
    · rw [HN.out, hL]; unfold segs; omega
    · rw [HN.out, hL]; unfold segs; omega
    · rw [hL]; exact HS3.out.big
  obtain ⟨pd, hpd⟩ : ∃ pd, pd = 7 * n - L := ⟨_, rfl⟩
  have HPd := Lib.hid hpd
  have hpd7 : pd ≤ 7 := by omega
  have hw1 : IntKind.i64.wrap (7 * (n : Int)) = 7 * (n : Int) := IntWalk.i64_in _ (by omega)
  have hw2 : IntKind.i64.wrap (7 * (n : Int) - (L : Int)) = (pd : Int) := by rw [IntWalk.i64_in _ (by omega)]; omega
  have hw3 : IntKind.u8.wrap (pd : Int) = (pd : Int) := by rw [IntKind.wrap_u8']; omega
  have hw4 : IntKind.u8.wrap (4 * (pd : Int)) = 4 * (pd : Int) := by rw [IntKind.wrap_u8']; omega
  have hor : IntKind.u8.wrap (193 + 4 * (pd : Int)) = 193 + 4 * (pd : Int) := by rw [IntKind.wrap_u8']; omega
  have t1 : (cr : Int).tmod 256 = (cr : Int) % 256 := Int.tmod_eq_emod_of_nonneg (by omega)
  have t2 : (cr : Int).tdiv 256 = (cr : Int) / 256 := Int.tdiv_eq_ediv_of_nonneg (by omega)
  have hw5 : IntKind.u8.wrap ((cr : Int) % 256) = (cr : Int) % 256 := by rw [IntKind.wrap_u8']; omega
  have hw6 : IntKind.u8.wrap ((cr : Int) / 256) = (cr : Int) / 256 := by rw [IntKind.wrap_u8']; omega
  have hw7 : IntKind.u16.wrap ((cr : Int) / 256) = (cr : Int) / 256 := by rw [IntKind.wrap_u16]; omega
  rw [← hL] at e4
  have HL := Lib.hid hL
  have HC3 := Lib.hid e4
  clear hcr hL hpd
  go_wp2_with fail
  go_region_held (fun w' => w'.cell? ⟨g, 0, none⟩ = some (.slice d.A L d.cap)) (first | (go_keep; done) | exact HC3.out) (first | (go_at_call 29; refine (All_is (HS3.out.keep ((Keep.refl Own.Zero _).drew) id (fun _ _ _ => id)) n HN.out).mono ?_; rintro e w' ⟨rfl, rfl⟩))
  go_wp2_with fail
  go_ret
  refine ⟨_, _, rfl, Lib.hid ⟨(HS3.out.alloc _).keep ((Keep.refl Own.Zero _).drew) id (fun _ _ _ => id), fr_one (Blk.cast (Blk.drew (Blk.new W3 _ _)) ?_) K3.out.size, (K3.out.alloc _).drew⟩⟩
  unfold frameC endF
  simp only [if_pos, HCr.out, HPd.out, HL.out, HN.out]
  rfl
set_option maxRecDepth 100000 in
set_option maxHeartbeats 4000000 in
theorem DBegin_ok {w : World} {g : Nat} {d : Doc} (h : IsDoc w g d) (hw : d.wait = 0) (hat : d.at' = 0) (k : Nat) (k0 : 1 ≤ k) (k1 : k ≤ 127) (m : Nat) (hm : m = min k (segs d.bs)) :
    Calls Try.prog 11 #[.pointer (some ⟨g, 0, none⟩), .int .i64 k] w fun e w' => ∃ A c, e = .returned (.tuple #[.slice A m c, .int .i64 0]) ∧ Hid (IsDoc w' g { d with many := m, wait := 1 } ∧ FrAt w' w.heap.size A m c (framesF d.bs 0 m) ∧ Keep (Own.One g) w w') := by
  have H := Lib.hid h
  have HM := Lib.hid hm
  have HA := Lib.hid hat
  have c3 : w.cell? ⟨g, 3, none⟩ = some (.int .i64 0) := by
    have e := h.blk.cell 3
    simp only [Doc.cells, hw] at e
    exact e
  have f3 := h.blk.frozen 3
  have b1 : decide ((k : Int) < 1) = false := by simp; omega
  have b2 : decide ((127 : Int) < (k : Int)) = false := by simp; omega
  have H2 : Hid (IsDoc (w.setCell ⟨g, 3, none⟩ (.int .i64 1)) g { d with wait := 1 }) := Lib.hid (h.put 3 _ _ (by simp [Doc.cells]) rfl rfl rfl h.atb)
  have K2 : Hid (Keep (Own.One g) w (w.setCell ⟨g, 3, none⟩ (.int .i64 1))) := Lib.hid ((Keep.refl (Own.One g) w).set1 3 _)
  clear h hm hw hat
  go_enter Try.func11, Try.ntmps11
  go_wp2_with fail
  refine (block_any H2.out k k0 k1 (by show d.at' < segs d.bs; rw [HA.out]; unfold segs; omega) m (by show m = min k (segs d.bs - d.at'); rw [HA.out]; exact HM.out)).mono ?_
  rintro e w' ⟨A, c, rfl, hp⟩
  have HP := hp
  clear hp
  go_wp2_with fail
  go_ret2
  refine ⟨A, c, rfl, Lib.hid ⟨HP.out.1, ?_, K2.out.trans HP.out.2.2 (fun k hk => .inl hk)⟩⟩
  have h := own_mono HP.out.2.1 K2.out.size
  have ha := HA.out
  simp only [ha] at h
  exact h
theorem DBegin_bad {w : World} {g : Nat} {d : Doc} (h : IsDoc w g d) (hw : d.wait = 0) (k : Int) (hk : k < 1 ∨ 127 < k) :
    Calls Try.prog 11 #[.pointer (some ⟨g, 0, none⟩), .int .i64 k] w fun e w' => e = .returned (.tuple #[.slice none 0 0, .int .i64 1]) ∧ w = w' := by
  have c3 : w.cell? ⟨g, 3, none⟩ = some (.int .i64 0) := by
    have e := h.blk.cell 3
    simp only [Doc.cells, hw] at e
    exact e
  by_cases h1 : k < 1
  · clear h hw hk
    go_enter Try.func11, Try.ntmps11
    go_wp2_with fail
    go_ret2
    exact ⟨rfl, rfl⟩
  · have h2 : 127 < k := by omega
    clear h hw hk
    go_enter Try.func11, Try.ntmps11
    go_wp2_with fail
    go_ret2
    exact ⟨rfl, rfl⟩
theorem Begin_bad {w : World} {g : Nat} {s : Snd} (h : IsSnd w g s) (hb : s.begun = false) (k : Int) (hk : k < 1 ∨ 127 < k) :
    Calls Try.prog 10 #[.pointer (some ⟨g, 0, none⟩), .int .i64 k] w fun e w' => e = .returned (.tuple #[.slice none 0 0, .int .i64 1]) ∧ w = w' := by
  have c3 : w.cell? ⟨g, 3, none⟩ = some (.bool false) := by rw [← hb]; exact h.blk.cell 3
  by_cases h1 : k < 1
  · clear h hb hk
    go_enter Try.func10, Try.ntmps10
    go_wp2_with fail
    go_ret2
    exact ⟨rfl, rfl⟩
  · have h2 : 127 < k := by omega
    clear h hb hk
    go_enter Try.func10, Try.ntmps10
    go_wp2_with fail
    go_ret2
    exact ⟨rfl, rfl⟩
theorem Begin_again {w : World} {g : Nat} {s : Snd} (h : IsSnd w g s) (hb : s.begun = true) (k : Int) :
    Calls Try.prog 10 #[.pointer (some ⟨g, 0, none⟩), .int .i64 k] w fun e w' => e = .returned (.tuple #[.slice none 0 0, .int .i64 6]) ∧ w = w' := by
  have c3 : w.cell? ⟨g, 3, none⟩ = some (.bool true) := by rw [← hb]; exact h.blk.cell 3
  clear h hb
  go_enter Try.func10, Try.ntmps10
  go_wp2_with fail
  go_ret2
  exact ⟨rfl, rfl⟩
theorem NewSender_long {w : World} (A : Option Addr) (c n : Nat) (hn : 65536 < n) :
    Calls Try.prog 7 #[.slice A n c] w fun e w' => e = .returned (.tuple #[.pointer none, .int .i64 2]) ∧ w = w' := by
  have b1 : (65536 : Int) < (n : Int) := by omega
  clear hn
  go_enter Try.func7, Try.ntmps7
  go_wp2_with fail
  go_ret2
  exact ⟨rfl, rfl⟩
end Go.Proofs.Ytdmomhbimhggiaa.Block
