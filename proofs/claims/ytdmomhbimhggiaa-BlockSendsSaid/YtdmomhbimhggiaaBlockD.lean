/- The sender's calls: Begin, and Feed of the answers that a receiver gives. -/
import Derived.Test.YtdmomhbimhggiaaBlockC
namespace Go.Proofs.Ytdmomhbimhggiaa.Block
open Go.RowKit Go.Proofs.Ytdmomhbimhggiaa.Own Go.Proofs.Ytdmomhbimhggiaa.Crc
def aggF (f : Nat → Int) : Value := .agg #[.int .u8 (f 0), .int .u8 (f 1), .int .u8 (f 2), .int .u8 (f 3), .int .u8 (f 4), .int .u8 (f 5), .int .u8 (f 6), .int .u8 (f 7)]
theorem IsSnd.put {w : World} {g : Nat} {s : Snd} (h : IsSnd w g s) (j : Nat) (v : Value) (s2 : Snd) (hc : s.cells.setIfInBounds j v = s2.cells) (hA : s2.A = s.A) (hcap : s2.cap = s.cap) (hbs : s2.bs = s.bs) (hat : s2.at' ≤ 100000) : IsSnd (w.setCell ⟨g, j, none⟩ v) g s2 :=
  ⟨(h.blk.set j v).cast hc, by rw [hA, hcap, hbs]; exact h.inb.keep ((Keep.refl (Own.One g) w).set1 j _) (fun a ha e => h.far a ha e), by rw [hA]; exact h.far, by rw [hbs]; exact h.big, hat⟩
/-- A sender's cells. -/
theorem IsSnd.all {w : World} {g : Nat} {s : Snd} (h : IsSnd w g s) :
    w.cell? ⟨g, 0, none⟩ = some (.slice s.A s.bs.length s.cap) ∧ w.cell? ⟨g, 1, none⟩ = some (.int .i64 s.at') ∧ w.cell? ⟨g, 2, none⟩ = some (.int .i64 s.many) ∧ w.cell? ⟨g, 3, none⟩ = some (.bool s.begun) ∧ w.cell? ⟨g, 4, none⟩ = some (.bool s.ends) ∧ w.cell? ⟨g, 5, none⟩ = some (.bool s.done) ∧ w.cell? ⟨g, 6, none⟩ = some (.int .u32 s.code) :=
  ⟨h.blk.cell 0, h.blk.cell 1, h.blk.cell 2, h.blk.cell 3, h.blk.cell 4, h.blk.cell 5, h.blk.cell 6⟩
theorem keep_q {S : Nat → Prop} {w w1 : World} {n : Nat} (h : Keep S (w.drewN n) w1) : Keep S w w1 := ⟨h.os, h.tape, h.output, h.size, h.block⟩
theorem IsSnd.alloc {w : World} {g : Nat} {s : Snd} (h : IsSnd w g s) (o : Go.Obj) : IsSnd (w.alloc o) g s := h.keep ((Keep.refl Own.Zero w).alloc o) id (fun _ _ => id)
set_option maxRecDepth 100000 in
set_option maxHeartbeats 4000000 in
theorem Begin_ok {w : World} {g : Nat} {s : Snd} (h : IsSnd w g s) (hb : s.begun = false) (hat : s.at' = 0) (k : Nat) (k0 : 1 ≤ k) (k1 : k ≤ 127) (m : Nat) (hm : m = min k (segs s.bs)) :
    Calls Try.prog 10 #[.pointer (some ⟨g, 0, none⟩), .int .i64 k] w fun e w' => ∃ A c, e = .returned (.tuple #[.slice A m c, .int .i64 0]) ∧ Hid (IsSnd w' g { s with many := m, begun := true } ∧ FrAt w' w.heap.size A m c (framesF s.bs 0 m) ∧ Keep (Own.One g) w w') := by
  have H := Lib.hid h
  have HM := Lib.hid hm
  have HA := Lib.hid hat
  have c3 : w.cell? ⟨g, 3, none⟩ = some (.bool false) := by rw [← hb]; exact h.blk.cell 3
  have f3 := h.blk.frozen 3
  have b1 : decide ((k : Int) < 1) = false := by simp; omega
  have b2 : decide ((127 : Int) < (k : Int)) = false := by simp; omega
  have H2 : Hid (IsSnd (w.setCell ⟨g, 3, none⟩ (.bool true)) g { s with begun := true }) := Lib.hid (h.put 3 _ _ rfl rfl rfl rfl h.atb)
  have K2 : Hid (Keep (Own.One g) w (w.setCell ⟨g, 3, none⟩ (.bool true))) := Lib.hid ((Keep.refl (Own.One g) w).set1 3 _)
  clear h hm hb hat
  go_enter Try.func10, Try.ntmps10
  go_wp2_with fail
  refine (frames_any H2.out k k0 k1 (by show s.at' < segs s.bs; rw [HA.out]; unfold segs; omega) m (by show m = min k (segs s.bs - s.at'); rw [HA.out]; exact HM.out)).mono ?_
  rintro e w' ⟨A, c, rfl, hp⟩
  have HP := hp
  clear hp
  go_wp2_with fail
  go_ret2
  refine ⟨A, c, rfl, Lib.hid ⟨HP.out.1, ?_, K2.out.trans HP.out.2.2 (fun k hk => .inl hk)⟩⟩
  have h := own_mono HP.out.2.1 K2.out.size
  have ha := HA.out
  simp only [ha] at h
  exact h
set_option maxRecDepth 100000 in
set_option maxHeartbeats 4000000 in
/-- A block is told, and there are more. -/
theorem Feed_more {w : World} {g : Nat} {s : Snd} (h : IsSnd w g s) (hb : s.begun = true) (hd : s.done = false) (he : s.ends = false) (j k : Nat) (x3 x4 x5 x6 x7 : Int) (hj : j ≤ s.many) (hj2 : j ≤ 127) (k0 : 1 ≤ k) (k1 : k ≤ 127) (hat : s.at' + j < segs s.bs) (m : Nat) (hm : m = min k (segs s.bs - (s.at' + j))) :
    Calls Try.prog 9 #[.pointer (some ⟨g, 0, none⟩), .agg #[.int .u8 162, .int .u8 j, .int .u8 k, .int .u8 x3, .int .u8 x4, .int .u8 x5, .int .u8 x6, .int .u8 x7]] w fun e w' => ∃ A c, e = .returned (.slice A m c) ∧ Hid (IsSnd w' g { s with at' := s.at' + j, many := m } ∧ FrAt w' w.heap.size A m c (framesF s.bs (s.at' + j) m) ∧ Keep (Own.One g) w w') := by
  have HM := Lib.hid hm
  clear hm
  have HAt := Lib.hid hat
  have H := Lib.hid h
  have hgl := h.blk.lt
  obtain ⟨p, hp⟩ : ∃ p, p = s.at' := ⟨_, rfl⟩
  obtain ⟨n, hn⟩ : ∃ n, n = segs s.bs := ⟨_, rfl⟩
  have HN := Lib.hid hn
  have HPp := Lib.hid hp
  have hnb : n ≤ 10000 := by have := h.big; rw [hn]; unfold segs; omega
  obtain ⟨M, hM⟩ : ∃ M, M = s.many := ⟨_, rfl⟩
  have hpn : p + j ≤ n := by omega
  have c1 : ∀ o, (w.alloc o).cell? ⟨g, 1, none⟩ = some (.int .i64 p) := fun o => by rw [hp]; exact (h.blk.alloc o).cell 1
  have f1 : ∀ o, (w.alloc o).frozen? ⟨g, 1, none⟩ = false := fun o => (h.blk.alloc o).frozen 1
  have c2 : ∀ o, (w.alloc o).cell? ⟨g, 2, none⟩ = some (.int .i64 M) := fun o => by rw [hM]; exact (h.blk.alloc o).cell 2
  have c3 : ∀ o, (w.alloc o).cell? ⟨g, 3, none⟩ = some (.bool true) := fun o => by rw [← hb]; exact (h.blk.alloc o).cell 3
  have c4 : ∀ o, (w.alloc o).cell? ⟨g, 4, none⟩ = some (.bool false) := fun o => by rw [← he]; exact (h.blk.alloc o).cell 4
  have c5 : ∀ o, (w.alloc o).cell? ⟨g, 5, none⟩ = some (.bool false) := fun o => by rw [← hd]; exact (h.blk.alloc o).cell 5
  have b1 : decide ((M : Int) < (j : Int)) = false := by simp; omega
  have b2 : decide ((k : Int) < 1) = false := by simp; omega
  have b3 : decide ((127 : Int) < (k : Int)) = false := by simp; omega
  have b4 : ((p : Int) + (j : Int) < (n : Int)) := by omega
  have b5 : ¬ (M : Int) < (j : Int) := by omega
  have hwp : IntKind.i64.wrap ((p : Int) + (j : Int)) = (p : Int) + (j : Int) := IntWalk.i64_in _ (by omega)
  clear h hb hd he hat hn hp hM
  go_enter Try.func9, Try.ntmps9
  go_wp2_with fail
  go_quiet (fail)
  go_wp2_with fail
  go_region
  obtain ⟨W2, hW2⟩ : ∃ x, x = ((w.alloc (.cells #[.int .u8 162, .int .u8 j, .int .u8 k, .int .u8 x3, .int .u8 x4, .int .u8 x5, .int .u8 x6, .int .u8 x7] 30)).drewN (nq + 1)).setCell ⟨g, 1, none⟩ (.int .i64 ((p : Int) + (j : Int))) := ⟨_, rfl⟩
  have HS2 : Hid (IsSnd W2 g { s with at' := s.at' + j }) := Lib.hid (by
    rw [hW2, HPp.out]
    exact ((H.out.alloc _).keep ((Keep.refl Own.Zero _).drewN _) id (fun _ _ => id)).put 1 _ _ (by simp [Snd.cells]) rfl rfl rfl (by show s.at' + j ≤ 100000; rw [← HPp.out]; omega))
  have K2 : Hid (Keep (Own.One g) w W2) := Lib.hid (by
    rw [hW2]
    exact (((Keep.refl (Own.One g) w).alloc _).drewN _).set1 1 _)
  have y2 : W2.cell? ⟨w.heap.size, 2, none⟩ = some (.int .u8 k) := by
    rw [hW2]
    have hb : Blk (w.alloc (.cells #[.int .u8 162, .int .u8 j, .int .u8 k, .int .u8 x3, .int .u8 x4, .int .u8 x5, .int .u8 x6, .int .u8 x7] 30)) w.heap.size #[.int .u8 162, .int .u8 j, .int .u8 k, .int .u8 x3, .int .u8 x4, .int .u8 x5, .int .u8 x6, .int .u8 x7] 30 := Blk.new w _ _
    exact ((hb.drewN _).far (p := ⟨g, 1, none⟩) (by show g ≠ w.heap.size; omega) _).cell 2
  have e1 : W2.cell? ⟨g, 1, none⟩ = some (.int .i64 ((p : Int) + (j : Int))) := by
    have h := HS2.out.all.2.1
    rw [HPp.out, h]
    simp
  rw [← hW2]
  clear hW2 c1 f1 c2 c3 c4 c5
  go_wp2_with fail
  go_quiet ((go_at_call 23; exact quiet_eq (segments_any (HS2.out.keep ((Keep.refl Own.Zero _).drewN _) id (fun _ _ => id)) n HN.out)))
  go_wp2_with fail
  refine (frames_any (HS2.out.keep ((Keep.refl Own.Zero _).drewN _) id (fun _ _ => id)) k k0 k1 HAt.out m HM.out).mono ?_
  rintro e w' ⟨A, c, rfl, hp⟩
  have HP := hp
  clear hp
  go_wp2_with fail
  go_ret
  exact ⟨A, c, rfl, Lib.hid ⟨HP.out.1, own_mono HP.out.2.1 K2.out.size, K2.out.trans (keep_q HP.out.2.2) (fun k hk => .inl hk)⟩⟩

/-- The last frame: what is left over of the last segment, and the sum. -/
def endF (bs : List Int) (k : Nat) : Int := if k = 0 then 193 + 4 * ((7 * segs bs - bs.length : Nat) : Int) else if k = 1 then (crc bs : Int) % 256 else if k = 2 then (crc bs : Int) / 256 else 0
theorem fr_one {w : World} {q base : Nat} {F : Nat → Int} (h : Blk w q (frameC F) 30) (hb : base ≤ q) : FrAt w base (some ⟨q, 0, none⟩) 1 1 [F] :=
  ⟨rfl, .inr ⟨q, 1, frameC F, rfl, hb, h, Nat.le_refl _, by decide, rfl, rfl⟩⟩
theorem or193 (i : Nat) (hi : i ≤ 7) : bits .or .u8 193 ((i : Int) * 4) = 193 + 4 * (i : Int) := by
  have h : ∀ i : Fin 8, bits .or .u8 193 ((i.val : Int) * 4) = 193 + 4 * (i.val : Int) := by decide
  exact h ⟨i, by omega⟩

theorem Feed_end {w : World} {g : Nat} {s : Snd} (h : IsSnd w g s) (hb : s.begun = true) (hd : s.done = false) (he : s.ends = false) (j k : Nat) (x3 x4 x5 x6 x7 : Int) (hj : j ≤ s.many) (hj2 : j ≤ 127) (k0 : 1 ≤ k) (k1 : k ≤ 127) (hat : s.at' + j = segs s.bs) :
    Calls Try.prog 9 #[.pointer (some ⟨g, 0, none⟩), .agg #[.int .u8 162, .int .u8 j, .int .u8 k, .int .u8 x3, .int .u8 x4, .int .u8 x5, .int .u8 x6, .int .u8 x7]] w fun e w' => ∃ A c, e = .returned (.slice A 1 c) ∧ Hid (IsSnd w' g { s with at' := s.at' + j, ends := true } ∧ FrAt w' w.heap.size A 1 c [endF s.bs] ∧ Keep (Own.One g) w w') := by
  have HEn := Lib.hid he
  have H := Lib.hid h
  have hgl := h.blk.lt
  obtain ⟨p, hp⟩ : ∃ p, p = s.at' := ⟨_, rfl⟩
  obtain ⟨n, hn⟩ : ∃ n, n = segs s.bs := ⟨_, rfl⟩
  have HN := Lib.hid hn
  have HPp := Lib.hid hp
  have hnb : n ≤ 10000 := by have := h.big; rw [hn]; unfold segs; omega
  obtain ⟨M, hM⟩ : ∃ M, M = s.many := ⟨_, rfl⟩
  have hpn : p + j ≤ n := by omega
  have c1 : ∀ o, (w.alloc o).cell? ⟨g, 1, none⟩ = some (.int .i64 p) := fun o => by rw [hp]; exact (h.blk.alloc o).cell 1
  have f1 : ∀ o, (w.alloc o).frozen? ⟨g, 1, none⟩ = false := fun o => (h.blk.alloc o).frozen 1
  have c2 : ∀ o, (w.alloc o).cell? ⟨g, 2, none⟩ = some (.int .i64 M) := fun o => by rw [hM]; exact (h.blk.alloc o).cell 2
  have c3 : ∀ o, (w.alloc o).cell? ⟨g, 3, none⟩ = some (.bool true) := fun o => by rw [← hb]; exact (h.blk.alloc o).cell 3
  have c4 : ∀ o, (w.alloc o).cell? ⟨g, 4, none⟩ = some (.bool false) := fun o => by rw [← he]; exact (h.blk.alloc o).cell 4
  have c5 : ∀ o, (w.alloc o).cell? ⟨g, 5, none⟩ = some (.bool false) := fun o => by rw [← hd]; exact (h.blk.alloc o).cell 5
  have b1 : decide ((M : Int) < (j : Int)) = false := by simp; omega
  have b2 : decide ((k : Int) < 1) = false := by simp; omega
  have b3 : decide ((127 : Int) < (k : Int)) = false := by simp; omega
  have b4 : ¬ ((p : Int) + (j : Int) < (n : Int)) := by omega
  have b5 : ¬ (M : Int) < (j : Int) := by omega
  have hwp : IntKind.i64.wrap ((p : Int) + (j : Int)) = (p : Int) + (j : Int) := IntWalk.i64_in _ (by omega)
  clear h hb hd he hat hn hp hM
  go_enter Try.func9, Try.ntmps9
  go_wp2_with fail
  go_quiet (fail)
  go_wp2_with fail
  go_region
  obtain ⟨W2, hW2⟩ : ∃ x, x = ((w.alloc (.cells #[.int .u8 162, .int .u8 j, .int .u8 k, .int .u8 x3, .int .u8 x4, .int .u8 x5, .int .u8 x6, .int .u8 x7] 30)).drewN (nq + 1)).setCell ⟨g, 1, none⟩ (.int .i64 ((p : Int) + (j : Int))) := ⟨_, rfl⟩
  have HS2 : Hid (IsSnd W2 g { s with at' := s.at' + j }) := Lib.hid (by
    rw [hW2, HPp.out]
    exact ((H.out.alloc _).keep ((Keep.refl Own.Zero _).drewN _) id (fun _ _ => id)).put 1 _ _ (by simp [Snd.cells]) rfl rfl rfl (by show s.at' + j ≤ 100000; rw [← HPp.out]; omega))
  have K2 : Hid (Keep (Own.One g) w W2) := Lib.hid (by
    rw [hW2]
    exact (((Keep.refl (Own.One g) w).alloc _).drewN _).set1 1 _)
  have y2 : W2.cell? ⟨w.heap.size, 2, none⟩ = some (.int .u8 k) := by
    rw [hW2]
    have hb : Blk (w.alloc (.cells #[.int .u8 162, .int .u8 j, .int .u8 k, .int .u8 x3, .int .u8 x4, .int .u8 x5, .int .u8 x6, .int .u8 x7] 30)) w.heap.size #[.int .u8 162, .int .u8 j, .int .u8 k, .int .u8 x3, .int .u8 x4, .int .u8 x5, .int .u8 x6, .int .u8 x7] 30 := Blk.new w _ _
    exact ((hb.drewN _).far (p := ⟨g, 1, none⟩) (by show g ≠ w.heap.size; omega) _).cell 2
  have e1 : W2.cell? ⟨g, 1, none⟩ = some (.int .i64 ((p : Int) + (j : Int))) := by
    have h := HS2.out.all.2.1
    rw [HPp.out, h]
    simp
  rw [← hW2]
  clear hW2 c1 f1 c2 c3 c4 c5
  go_wp2_with fail
  go_quiet ((go_at_call 23; exact quiet_eq (segments_any (HS2.out.keep ((Keep.refl Own.Zero _).drewN _) id (fun _ _ => id)) n HN.out)))
  have hq : ∀ m, IsSnd (W2.drewN m) g { s with at' := s.at' + j } := fun m => HS2.out.keep ((Keep.refl Own.Zero _).drewN _) id (fun _ _ => id)
  have HQ := Lib.hid hq
  have e0 : ∀ m, (W2.drewN m).cell? ⟨g, 0, none⟩ = some (.slice s.A s.bs.length s.cap) := fun m => (hq m).all.1
  have e4 : ∀ m, (W2.drewN m).cell? ⟨g, 4, none⟩ = some (.bool false) := fun m => by
    rw [← HEn.out]
    exact (hq m).all.2.2.2.2.1
  have f4 : ∀ m, (W2.drewN m).frozen? ⟨g, 4, none⟩ = false := fun m => (hq m).blk.frozen 4
  clear hq
  go_wp2_with fail
  obtain ⟨W3, hW3⟩ : ∃ x, x = (W2.drewN nq).setCell ⟨g, 4, none⟩ (.bool true) := ⟨_, rfl⟩
  rw [← hW3]
  have HS3 : Hid (IsSnd W3 g { s with at' := s.at' + j, ends := true }) := Lib.hid (by
    rw [hW3]
    exact (HQ.out nq).put 4 _ _ (by simp [Snd.cells]) rfl rfl rfl HS2.out.atb)
  have K3 : Hid (Keep (Own.One g) w W3) := Lib.hid (by
    rw [hW3]
    exact (K2.out.drewN _).set1 4 _)
  have e3 : W3.cell? ⟨g, 0, none⟩ = some (.slice s.A s.bs.length s.cap) := HS3.out.all.1
  clear hW3 e0 e4 f4 e1 y2
  refine (CRC16_any s.A s.cap s.bs HS3.out.inb.row HS3.out.inb.byte (by have := HS3.out.big; simp only at this; omega)).mono ?_
  rintro e w' ⟨rfl, rfl⟩
  obtain ⟨cr, hcr⟩ : ∃ cr, cr = crc s.bs := ⟨_, rfl⟩
  have hcr1 : cr < 65536 := by rw [hcr]; exact crc_lt HS3.out.inb.byte
  have HCr := Lib.hid hcr
  rw [← hcr]
  obtain ⟨L, hL⟩ : ∃ L, L = s.bs.length := ⟨_, rfl⟩
  have hLn : L ≤ 7 * n ∧ 7 * n ≤ L + 7 ∧ L ≤ 65536 := by
    refine ⟨?_, ?_, ?_⟩
    · rw [HN.out, hL]; unfold segs; omega
    · rw [HN.out, hL]; unfold segs; omega
    · rw [hL]; exact HS3.out.big
  obtain ⟨pd, hpd⟩ : ∃ pd, pd = 7 * n - L := ⟨_, rfl⟩
  have HPd := Lib.hid hpd
  have hpd7 : pd ≤ 7 := by omega
  have hw1 : IntKind.i64.wrap (7 * (n : Int)) = 7 * (n : Int) := IntWalk.i64_in _ (by omega)
  have hw2 : IntKind.i64.wrap (7 * (n : Int) - (L : Int)) = (pd : Int) := by rw [IntWalk.i64_in _ (by omega)]; omega
  have hw3 : IntKind.u8.wrap (pd : Int) = (pd : Int) := by rw [IntKind.wrap_u8']; omega
  rw [← hL] at e3
  have HL := Lib.hid hL
  have hw4 : IntKind.u8.wrap ((pd : Int) * 4) = (pd : Int) * 4 := by rw [IntKind.wrap_u8']; omega
  have hor : bits .or .u8 193 ((pd : Int) * 4) = 193 + 4 * (pd : Int) := or193 pd hpd7
  have hw5 : IntKind.u8.wrap (cr : Int) = (cr : Int) % 256 := IntKind.wrap_u8' _
  have hw6 : IntKind.u8.wrap ((cr : Int) / 256) = (cr : Int) / 256 := by rw [IntKind.wrap_u8']; omega
  have HC3 := Lib.hid e3
  clear hcr hL hpd
  go_wp2_with fail
  go_region_held (fun w' => w'.cell? ⟨g, 0, none⟩ = some (.slice s.A L s.cap)) (first | (go_keep; done) | exact HC3.out) (first | (go_at_call 23; refine (segments_any (HS3.out.keep ((Keep.refl Own.Zero _).drew) id (fun _ _ => id)) n HN.out).mono ?_; rintro e w' ⟨rfl, rfl⟩))
  go_wp2_with fail
  go_ret
  refine ⟨_, _, rfl, Lib.hid ⟨(HS3.out.alloc _).keep ((Keep.refl Own.Zero _).drew) id (fun _ _ => id), fr_one (Blk.cast (Blk.drew (Blk.new W3 _ _)) ?_) K3.out.size, (K3.out.alloc _).drew⟩⟩
  unfold frameC endF
  simp only [if_pos, HCr.out, HPd.out, HL.out, HN.out]
  rfl
set_option maxRecDepth 100000 in
set_option maxHeartbeats 4000000 in
/-- The end is taken. -/
theorem Feed_taken {w : World} {g : Nat} {s : Snd} (h : IsSnd w g s) (hb : s.begun = true) (hd : s.done = false) (he : s.ends = true) (x1 x2 x3 x4 x5 x6 x7 : Int) :
    Calls Try.prog 9 #[.pointer (some ⟨g, 0, none⟩), .agg #[.int .u8 161, .int .u8 x1, .int .u8 x2, .int .u8 x3, .int .u8 x4, .int .u8 x5, .int .u8 x6, .int .u8 x7]] w fun e w' => e = .returned (.slice none 0 0) ∧ Hid (IsSnd w' g { s with done := true } ∧ Keep (Own.One g) w w') := by
  have H := Lib.hid h
  have hgl := h.blk.lt
  have c3 : ∀ o, (w.alloc o).cell? ⟨g, 3, none⟩ = some (.bool true) := fun o => by rw [← hb]; exact (h.blk.alloc o).cell 3
  have c4 : ∀ o, (w.alloc o).cell? ⟨g, 4, none⟩ = some (.bool true) := fun o => by rw [← he]; exact (h.blk.alloc o).cell 4
  have c5 : ∀ o, (w.alloc o).cell? ⟨g, 5, none⟩ = some (.bool false) := fun o => by rw [← hd]; exact (h.blk.alloc o).cell 5
  have f5 : ∀ o, (w.alloc o).frozen? ⟨g, 5, none⟩ = false := fun o => (h.blk.alloc o).frozen 5
  clear h hb hd he
  go_enter Try.func9, Try.ntmps9
  go_wp2_with fail
  go_ret
  exact ⟨rfl, Lib.hid ⟨(H.out.put 5 _ { s with done := true } (by simp [Snd.cells]) rfl rfl rfl H.out.atb).alloc _, ((Keep.refl (Own.One g) w).set1 5 _).alloc _⟩⟩
theorem SDone_is {w : World} {g : Nat} {s : Snd} (h : IsSnd w g s) :
    Calls Try.prog 14 #[.pointer (some ⟨g, 0, none⟩)] w fun e w' => e = .returned (.tuple #[.int .u32 s.code, .bool s.done]) ∧ Hid (Keep Own.Zero w w') := by
  have c6 := h.all.2.2.2.2.2.2
  have c5 := h.all.2.2.2.2.2.1
  clear h
  go_enter Try.func14, Try.ntmps14
  go_wp2_with fail
  go_region
  go_wp2_with fail
  go_ret2
  exact ⟨rfl, Lib.hid (Keep.refl _ _).drew⟩
end Go.Proofs.Ytdmomhbimhggiaa.Block
