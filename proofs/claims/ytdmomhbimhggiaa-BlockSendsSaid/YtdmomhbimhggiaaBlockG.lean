/- The receiver's end, Ask, Done. -/
import Derived.Test.YtdmomhbimhggiaaBlockF
import Derived.Test.YtdmomhbimhggiaaJoins
namespace Go.Proofs.Ytdmomhbimhggiaa.Block
open Go.RowKit Go.Proofs.Ytdmomhbimhggiaa.Own Go.Proofs.Ytdmomhbimhggiaa.Crc
set_option maxRecDepth 100000 in
set_option maxHeartbeats 1000000 in
theorem gives_ok {w : World} {g base : Nat} {r : Rcv} (h : IsRcv w g base r) (c : Nat) (hc : c < 4294967296) :
    Calls Try.prog 36 #[.pointer (some ⟨g, 0, none⟩), .int .u32 c] w fun e w' => e = .returned (.tuple #[aggF (abF c), .bool true]) ∧ Hid (IsRcv w' g base { r with doing := 2, code := c, V := .slice none 0 0, xs := [] } ∧ Keep (Own.One g) w w') := by
  have H := Lib.hid h
  have hgl := h.blk.lt
  have k1 := h.blk.cell 1
  have k11 := h.blk.cell 11
  have k12 := h.blk.cell 12
  simp only [Rcv.cells] at k1 k11 k12
  have f1 := h.blk.frozen 1
  have f11 := h.blk.frozen 11
  have f12 := h.blk.frozen 12
  clear h
  go_enter Try.func36, Try.ntmps36
  go_wp2_with fail
  refine (Abort_is _ c hc).mono ?_
  rintro e w1 ⟨rfl, hk⟩
  have hka : Keep (Own.One g) w (((w.setCell ⟨g, 1, none⟩ (.int .i64 2)).setCell ⟨g, 12, none⟩ (.int .u32 c)).setCell ⟨g, 11, none⟩ (.slice none 0 0)) := (((Keep.refl (Own.One g) w).set1 1 _).set1 12 _).set1 11 _
  have HRa : Hid (IsRcv (((w.setCell ⟨g, 1, none⟩ (.int .i64 2)).setCell ⟨g, 12, none⟩ (.int .u32 c)).setCell ⟨g, 11, none⟩ (.slice none 0 0)) g base { r with doing := 2, code := c, V := .slice none 0 0, xs := [] }) :=
    Lib.hid ⟨(((H.out.blk.set 1 _).set 12 _).set 11 _).cast (by simp [Rcv.cells]), own_nil _ _ _ _, (fun _ h => by cases h), H.out.s0, H.out.s1, H.out.c1, by simp, Nat.le_trans H.out.bs hka.size⟩
  have HKa := Lib.hid hka
  clear hka
  have HB1 : Hid (Blk w1 w.heap.size #[.int .u8 0, .int .u8 0, .int .u8 0, .int .u8 0, .int .u8 0, .int .u8 0, .int .u8 0, .int .u8 0] 30) := Lib.hid ((Blk.at_ (by simp)).keep hk.out id)
  have HR1 : Hid (IsRcv w1 g base { r with doing := 2, code := c, V := .slice none 0 0, xs := [] }) := Lib.hid ((HRa.out.alloc _).keep hk.out (fun _ _ => id))
  have HK1 : Hid (Keep (Own.One g) w w1) := Lib.hid ((HKa.out.alloc _).trans hk.out (fun _ h => h.elim))
  clear hk HRa HKa
  have z0 := (HB1.out).cell 0
  have z1 := (HB1.out).cell 1
  have z2 := (HB1.out).cell 2
  have z3 := (HB1.out).cell 3
  have z4 := (HB1.out).cell 4
  have z5 := (HB1.out).cell 5
  have z6 := (HB1.out).cell 6
  have z7 := (HB1.out).cell 7
  have zf0 := (HB1.out).frozen 0
  have zf1 := (HB1.out).frozen 1
  have zf2 := (HB1.out).frozen 2
  have zf3 := (HB1.out).frozen 3
  have zf4 := (HB1.out).frozen 4
  have zf5 := (HB1.out).frozen 5
  have zf6 := (HB1.out).frozen 6
  have zf7 := (HB1.out).frozen 7
  simp only [List.getElem?_toArray, List.getElem?_cons_zero, List.getElem?_cons_succ] at z0 z1 z2 z3 z4 z5 z6 z7
  unfold aggF
  go_wp2_with fail
  refine bodyPost_ret (v := .tuple #[aggF (abF c), .bool true]) (results_row (p := 4) (u := 5) rfl _ _ w.heap.size (abF c 0) (abF c 1) (abF c 2) (abF c 3) (abF c 4) (abF c 5) (abF c 6) (abF c 7) rfl (blk8 HB1.out _ _ _ _ _ _ _ _) _ _ rfl rfl) rfl ?_
  refine ⟨rfl, Lib.hid ⟨HR1.out.keep (keep8 (Keep.refl (Own.One w.heap.size) w1) (.inl rfl) _ _ _ _ _ _ _ _) (fun i hi e => ?_), keep8 HK1.out (.inr (Nat.le_refl _)) _ _ _ _ _ _ _ _⟩⟩
  rcases hi with rfl | hi
  · have e' : i = w.heap.size := e
    omega
  · cases hi
/-- b[:n] of bytes. -/
theorem slice22_h (A : Option Addr) (L c n : Nat) (h1 : n ≤ L) (h2 : L ≤ c) (X : World) : Sem.run Try.prog (Instr.slice 22 (.slice A L c) none (some (.int .i64 (n : Int))) none) X = .ok (.slice A n c) X := by
  have hu : Try.prog.underlying 22 = some (.slice (Try.prog.elem 22)) := by kernel_rfl
  rw [run_slice_h X 22 A L c hu .i64 n (by omega) (by omega)]
  simp [go_sem]
theorem own_take {w : World} {base : Nat} {A : Option Addr} {L c n : Nat} {xs : List Int} (h : w.ownsRow base 5 1 (.slice A L c) L (ints .u8 xs)) (hn : n ≤ L) : w.ownsRow base 5 1 (.slice A n c) n (ints .u8 (xs.take n)) := by
  obtain ⟨hl, ⟨hv, hL⟩ | ⟨g, cap, cur, hv, hb, hh, h1, h2, h3, h4⟩⟩ := h
  · obtain rfl : n = 0 := by omega
    simp only [Value.slice.injEq] at hv
    obtain ⟨rfl, _, rfl⟩ := hv
    exact ⟨by simp [ints], .inl ⟨rfl, rfl⟩⟩
  · simp only [Value.slice.injEq] at hv
    obtain ⟨rfl, _, rfl⟩ := hv
    rw [ints_length] at hl
    refine ⟨by rw [ints_length, List.length_take]; omega, .inr ⟨g, c, cur, rfl, hb, hh, by omega, h2, h3, ?_⟩⟩
    have e : ints .u8 (xs.take n) = (ints .u8 xs).take n := by unfold ints; rw [List.map_take]
    rw [e, ← h4, List.take_take]
    congr 1
    omega
theorem RDone_not {w : World} {g base : Nat} {r : Rcv} (h : IsRcv w g base r) (hd : r.doing ≠ 2) :
    Calls Try.prog 17 #[.pointer (some ⟨g, 0, none⟩)] w fun e w' => e = .returned (.tuple #[.slice none 0 0, .int .u32 0, .bool false]) ∧ w = w' := by
  have k1 : w.cell? ⟨g, 1, none⟩ = some (.int .i64 r.doing) := h.blk.cell 1
  have hne : ¬ (r.doing : Int) = 2 := by omega
  clear h hd
  go_enter Try.func17, Try.ntmps17
  go_wp2_with fail
  go_ret3
  exact ⟨rfl, rfl⟩
set_option maxRecDepth 100000 in
set_option maxHeartbeats 1000000 in
theorem RDone_over {w : World} {g base : Nat} {r : Rcv} (h : IsRcv w g base r) (hd : r.doing = 2) :
    Calls Try.prog 17 #[.pointer (some ⟨g, 0, none⟩)] w fun e w' => ∃ A c, e = .returned (.tuple #[.slice A r.xs.length c, .int .u32 r.code, .bool true]) ∧ Hid (In w' A c r.xs ∧ Keep Own.Zero w w') := by
  have H := Lib.hid h
  have k1 : w.cell? ⟨g, 1, none⟩ = some (.int .i64 2) := by
    have e := h.blk.cell 1
    simp only [Rcv.cells, hd] at e
    exact e
  obtain ⟨A, c, hV, hrow, hic, hm, _⟩ := Row.own h.own
  have hi : In w A c r.xs := ⟨hrow, by
    rintro rfl
    obtain ⟨_, ⟨hv, _⟩ | ⟨g2, cap, cur, hv, _⟩⟩ := h.own
    · rw [hV] at hv
      simp only [Value.slice.injEq] at hv
      exact hv.2.2
    · rw [hV] at hv
      simp at hv, hic, h.byte⟩
  have HI := Lib.hid hi
  obtain ⟨L, hL⟩ : ∃ L, L = r.xs.length := ⟨_, rfl⟩
  have HL := Lib.hid hL
  have HC11 : Hid (w.cell? ⟨g, 11, none⟩ = some (.slice A L c)) := Lib.hid (by
    have e := h.blk.cell 11
    simp only [Rcv.cells, hV, ← hL] at e
    exact e)
  have HC12 : Hid (w.cell? ⟨g, 12, none⟩ = some (.int .u32 r.code)) := Lib.hid (h.blk.cell 12)
  have hgl := h.blk.lt
  rw [← hL]
  clear h hd hrow hi hL hV
  go_enter Try.func17, Try.ntmps17
  go_wp2_with fail
  go_region_held (fun w' => w'.cell? ⟨g, 11, none⟩ = some (.slice A L c) ∧ w'.cell? ⟨g, 12, none⟩ = some (.int .u32 r.code)) (first | (go_keep; done) | exact ⟨HC11.out, HC12.out⟩ | exact ⟨(hk4.out.cell (p := ⟨g, 11, none⟩) hgl id).trans HC11.out, (hk4.out.cell (p := ⟨g, 12, none⟩) hgl id).trans HC12.out⟩) (first | (go_at_call 20; refine (Clone_any (HI.out.keep ((Keep.refl Own.Zero w).drew) (fun _ _ => id)) (by have := H.out.big; omega) L HL.out).mono ?_; rintro e w4 ⟨A4, c4, rfl, hi4, hk4, _⟩; have hi4 := Lib.hid hi4; have hk4 := Lib.hid hk4))
  go_wp2_with fail
  go_ret3
  exact ⟨A4, c4, rfl, Lib.hid ⟨hi4.out, ⟨hk4.out.os, hk4.out.tape, hk4.out.output, hk4.out.size, hk4.out.block⟩⟩⟩
set_option maxRecDepth 100000 in
set_option maxHeartbeats 1000000 in
/-- Ask, where segments are taken. -/
theorem Ask_0 {w : World} {g base : Nat} {r : Rcv} (h : IsRcv w g base r) (hd : r.doing = 0) :
    Calls Try.prog 19 #[.pointer (some ⟨g, 0, none⟩)] w fun e w' => e = .returned (.tuple #[aggF (ansF r.came r.size), .bool true]) ∧ Hid (IsRcv w' g base { r with came := 0, last := ansF r.came r.size } ∧ Keep (Own.One g) w w') := by
  have H := Lib.hid h
  have hgl := h.blk.lt
  have k1 : w.cell? ⟨g, 1, none⟩ = some (.int .i64 0) := by
    have e := h.blk.cell 1
    simp only [Rcv.cells, hd] at e
    exact e
  clear h hd
  go_enter Try.func19, Try.ntmps19
  go_wp2_with fail
  refine (answers_ok (H.out.alloc _)).mono ?_
  rintro e w1 ⟨rfl, hk⟩
  have HB1 : Hid (Blk w1 w.heap.size #[.int .u8 0, .int .u8 0, .int .u8 0, .int .u8 0, .int .u8 0, .int .u8 0, .int .u8 0, .int .u8 0] 30) := Lib.hid ((Blk.new w _ _).keep hk.out.2 (fun e => by have e' : w.heap.size = g := e; omega))
  have HR1 := Lib.hid hk.out.1
  have HK1 : Hid (Keep (Own.One g) w w1) := Lib.hid (((Keep.refl (Own.One g) w).alloc _).trans hk.out.2 (fun k h => .inl h))
  clear hk
  have z0 := (HB1.out).cell 0
  have z1 := (HB1.out).cell 1
  have z2 := (HB1.out).cell 2
  have z3 := (HB1.out).cell 3
  have z4 := (HB1.out).cell 4
  have z5 := (HB1.out).cell 5
  have z6 := (HB1.out).cell 6
  have z7 := (HB1.out).cell 7
  have zf0 := (HB1.out).frozen 0
  have zf1 := (HB1.out).frozen 1
  have zf2 := (HB1.out).frozen 2
  have zf3 := (HB1.out).frozen 3
  have zf4 := (HB1.out).frozen 4
  have zf5 := (HB1.out).frozen 5
  have zf6 := (HB1.out).frozen 6
  have zf7 := (HB1.out).frozen 7
  simp only [List.getElem?_toArray, List.getElem?_cons_zero, List.getElem?_cons_succ] at z0 z1 z2 z3 z4 z5 z6 z7
  rw [aggF_ans]
  go_wp2_with fail
  refine bodyPost_ret (v := .tuple #[aggF (ansF r.came r.size), .bool true]) (results_row (p := 2) (u := 3) rfl _ _ w.heap.size 162 r.came r.size 0 0 0 0 0 rfl (blk8 HB1.out _ _ _ _ _ _ _ _) _ _ rfl rfl) rfl ?_
  refine ⟨rfl, Lib.hid ⟨HR1.out.keep (keep8 (Keep.refl (Own.One w.heap.size) w1) (.inl rfl) _ _ _ _ _ _ _ _) (fun i hi e => ?_), keep8 HK1.out (.inr (Nat.le_refl _)) _ _ _ _ _ _ _ _⟩⟩
  rcases hi with rfl | hi
  · have e' : i = w.heap.size := e
    omega
  · exact own_far HR1.out.own HB1.out (by decide) (by rw [hi, e])
theorem Row.take {w : World} {A : Option Addr} {xs : List Int} (h : Row w A (ints .u8 xs)) (n : Nat) : Row w A (ints .u8 (xs.take n)) := fun i v hv => by
  refine h i v ?_
  rw [ints_get, List.getElem?_take] at hv
  split at hv
  · rw [ints_get]
    exact hv
  · simp at hv
theorem CRC_n {w : World} (A : Option Addr) (c : Nat) (xs : List Int) (n : Nat) (hn : n = xs.length) (cr : Nat) (hcr : cr = crc xs) (hr : Row w A (ints .u8 xs)) (hb : ∀ x ∈ xs, 0 ≤ x ∧ x ≤ 255) (hl : xs.length ≤ 1000000000000000) :
    Calls Try.prog 25 #[.slice A n c] w fun e w' => e = .returned (.int .u16 cr) ∧ w = w' := by
  subst hn hcr
  exact CRC16_any A c xs hr hb hl
set_option maxRecDepth 100000 in
set_option maxHeartbeats 1000000 in
/-- The end fits. -/
theorem end_ok {w : World} {g base : Nat} {r : Rcv} (h : IsRcv w g base r) (F : Nat → Int) (pd n : Nat) (hpd : pd ≤ 7) (hx : r.xs.length = n + pd) (hn : n ≤ 65536) (h0 : F 0 = 193 + 4 * (pd : Int)) (hb : ∀ k, 0 ≤ F k ∧ F k ≤ 255) (hF : F 1 + F 2 * 256 = (crc (r.xs.take n) : Int)) :
    Calls Try.prog 32 #[.pointer (some ⟨g, 0, none⟩), aggF F] w (FeedPost r g base (fun k => if k = 0 then 161 else 0) true { r with doing := 2, xs := r.xs.take n } w) := by
  have H := Lib.hid h
  have hgl := h.blk.lt
  obtain ⟨A, c, hV, hrow, hic, hm, _⟩ := Row.own h.own
  obtain ⟨L, hL⟩ : ∃ L, L = r.xs.length := ⟨_, rfl⟩
  have HL := Lib.hid hL
  have hLn : L = n + pd := by omega
  have HV := Lib.hid hV
  have HRw := Lib.hid hrow
  have HH := Lib.hid (show L ≤ c by rw [hL]; exact hic)
  have k11 : ∀ o o', ((w.alloc o).alloc o').cell? ⟨g, 11, none⟩ = some (.slice A L c) := fun o o' => by
    have e := ((h.blk.alloc o).alloc o').cell 11
    simp only [Rcv.cells, hV, ← hL] at e
    exact e
  have hLb : L ≤ 70000 := by rw [hL]; exact h.big
  obtain ⟨x0, hx0⟩ : ∃ x, x = F 0 := ⟨_, rfl⟩
  obtain ⟨x1, hx1⟩ : ∃ x, x = F 1 := ⟨_, rfl⟩
  obtain ⟨x2, hx2⟩ : ∃ x, x = F 2 := ⟨_, rfl⟩
  have b1 := hb 1
  have b2 := hb 2
  rw [← hx1] at b1 hF
  rw [← hx2] at b2 hF
  have hb1 : bits .and .u8 (x0 / 4) 7 = (pd : Int) := by rw [hx0, h0]; exact (and7 pd hpd).1
  have hor : bits .or .u16 x1 (x2 * 256) = x1 + x2 * 256 := or_u16_8 x1 x2 b1.1 (by omega) b2.1 b2.2
  have hw1 : IntKind.i64.wrap ((L : Int) - (pd : Int)) = (n : Int) := by rw [IntWalk.i64_in _ (by omega)]; omega
  have hw2 : IntKind.u16.wrap (x2 * 256) = x2 * 256 := by rw [IntKind.wrap_u16]; omega
  have hn0 : decide ((n : Int) < 0) = false := by simp
  have hn1 : decide ((65536 : Int) < (n : Int)) = false := by simp; omega
  have HNl : Hid (n = (r.xs.take n).length) := Lib.hid (by rw [List.length_take]; omega)
  have hsl := slice22_h A L c n (by omega) HH.out
  have ha : aggF F = .agg #[.int .u8 x0, .int .u8 x1, .int .u8 x2, .int .u8 (F 3), .int .u8 (F 4), .int .u8 (F 5), .int .u8 (F 6), .int .u8 (F 7)] := by rw [hx0, hx1, hx2]; rfl
  rw [ha]
  obtain ⟨cr, hcr⟩ : ∃ cr, cr = crc (r.xs.take n) := ⟨_, rfl⟩
  rw [← hcr] at hF
  have HCr := Lib.hid hcr
  have HLn := Lib.hid hLn
  clear h hV hrow hic hL hx0 hx1 hx2 h0 ha hb hx hcr hLn
  go_enter Try.func32, Try.ntmps32
  go_wp2_with fail
  go_quiet (fail)
  go_wp2_with fail
  obtain ⟨W0, hW0⟩ : ∃ x, x = ((w.alloc (.cells #[.int .u8 x0, .int .u8 x1, .int .u8 x2, .int .u8 (F 3), .int .u8 (F 4), .int .u8 (F 5), .int .u8 (F 6), .int .u8 (F 7)] 30)).alloc (.cells #[.int .u8 0, .int .u8 0, .int .u8 0, .int .u8 0, .int .u8 0, .int .u8 0, .int .u8 0, .int .u8 0] 30)).drewN nq := ⟨_, rfl⟩
  have HBf : Hid (Blk W0 w.heap.size #[.int .u8 x0, .int .u8 x1, .int .u8 x2, .int .u8 (F 3), .int .u8 (F 4), .int .u8 (F 5), .int .u8 (F 6), .int .u8 (F 7)] 30) := Lib.hid (by rw [hW0]; exact ((Blk.new w _ _).alloc _).drewN _)
  have HBz : Hid (Blk W0 (w.heap.size + 1) #[.int .u8 0, .int .u8 0, .int .u8 0, .int .u8 0, .int .u8 0, .int .u8 0, .int .u8 0, .int .u8 0] 30) := Lib.hid (by rw [hW0]; exact (Blk.at_ (by simp)).drewN _)
  have HK0 : Hid (Keep Own.Zero w W0) := Lib.hid (by rw [hW0]; exact (((Keep.refl Own.Zero w).alloc _).alloc _).drewN _)
  have HR0 : Hid (IsRcv W0 g base r) := Lib.hid (H.out.keep HK0.out (fun _ _ => id))
  have HCRC : Hid (∀ m, Calls Try.prog 25 #[.slice A n c] (W0.drewN m) fun e w' => e = .returned (.int .u16 cr) ∧ W0.drewN m = w') := Lib.hid (fun m => CRC_n A c (r.xs.take n) n HNl.out cr HCr.out (Row.take (HRw.out.keep (HK0.out.drewN m) (fun _ _ _ => id)) n) (fun y hy => H.out.byte y (List.mem_of_mem_take hy)) (by rw [← HNl.out]; omega))
  have y0 : W0.cell? ⟨w.heap.size, 0, none⟩ = some (.int .u8 x0) := HBf.out.cell 0
  have y1 : W0.cell? ⟨w.heap.size, 1, none⟩ = some (.int .u8 x1) := HBf.out.cell 1
  have y2 : W0.cell? ⟨w.heap.size, 2, none⟩ = some (.int .u8 x2) := HBf.out.cell 2
  have k11 : W0.cell? ⟨g, 11, none⟩ = some (.slice A L c) := by
    have e := HR0.out.blk.cell 11
    simp only [Rcv.cells, HV.out, ← HL.out] at e
    exact e
  rw [← hW0]
  clear hW0
  go_quiet ((go_at_call 25; exact quiet_eq (HCRC.out _)))
  obtain ⟨W1, hW1⟩ : ∃ x, x = W0.drewN nq := ⟨_, rfl⟩
  have HB1 : Hid (Blk W1 (w.heap.size + 1) #[.int .u8 0, .int .u8 0, .int .u8 0, .int .u8 0, .int .u8 0, .int .u8 0, .int .u8 0, .int .u8 0] 30) := Lib.hid (by rw [hW1]; exact HBz.out.drewN _)
  have HK1 : Hid (Keep Own.Zero w W1) := Lib.hid (by rw [hW1]; exact HK0.out.drewN _)
  have HR1 : Hid (IsRcv W1 g base r) := Lib.hid (H.out.keep HK1.out (fun _ _ => id))
  rw [← hW1]
  clear hW1 k11 y0 y1 y2 hb1 hor hw1 hw2 hF
  have k11 : W1.cell? ⟨g, 11, none⟩ = some (.slice A L c) := by
    have e := HR1.out.blk.cell 11
    simp only [Rcv.cells, HV.out, ← HL.out] at e
    exact e
  have f11 := HR1.out.blk.frozen 11
  have k1 : W1.cell? ⟨g, 1, none⟩ = some (.int .i64 r.doing) := HR1.out.blk.cell 1
  have f1 := HR1.out.blk.frozen 1
  have z0 := (HB1.out).cell 0
  have z1 := (HB1.out).cell 1
  have z2 := (HB1.out).cell 2
  have z3 := (HB1.out).cell 3
  have z4 := (HB1.out).cell 4
  have z5 := (HB1.out).cell 5
  have z6 := (HB1.out).cell 6
  have z7 := (HB1.out).cell 7
  have zf0 := (HB1.out).frozen 0
  have zf1 := (HB1.out).frozen 1
  have zf2 := (HB1.out).frozen 2
  have zf3 := (HB1.out).frozen 3
  have zf4 := (HB1.out).frozen 4
  have zf5 := (HB1.out).frozen 5
  have zf6 := (HB1.out).frozen 6
  have zf7 := (HB1.out).frozen 7
  simp only [List.getElem?_toArray, List.getElem?_cons_zero, List.getElem?_cons_succ] at z0 z1 z2 z3 z4 z5 z6 z7
  go_wp2_with fail
  have HB2 : Hid (Blk ((W1.setCell ⟨g, 11, none⟩ (.slice A n c)).setCell ⟨g, 1, none⟩ (.int .i64 2)) (w.heap.size + 1) #[.int .u8 0, .int .u8 0, .int .u8 0, .int .u8 0, .int .u8 0, .int .u8 0, .int .u8 0, .int .u8 0] 30) := Lib.hid ((HB1.out.far (by show g ≠ w.heap.size + 1; omega) _).far (by show g ≠ w.heap.size + 1; omega) _)
  have HK2 : Hid (Keep (Own.One g) W1 ((W1.setCell ⟨g, 11, none⟩ (.slice A n c)).setCell ⟨g, 1, none⟩ (.int .i64 2))) := Lib.hid (((Keep.refl (Own.One g) W1).set1 11 _).set1 1 _)
  have ho1 : W1.ownsRow base 5 1 (.slice A L c) L (ints .u8 r.xs) := by
    have h := HR1.out.own
    rw [HV.out, ← HL.out] at h
    exact h
  have ho := own_take ho1 (n := n) (by have := HLn.out; omega)
  have HR2 : Hid (IsRcv ((W1.setCell ⟨g, 11, none⟩ (.slice A n c)).setCell ⟨g, 1, none⟩ (.int .i64 2)) g base { r with doing := 2, xs := r.xs.take n, V := .slice A n c }) := Lib.hid ⟨((HR1.out.blk.set 11 _).set 1 _).cast (by simp [Rcv.cells]), by
      show World.ownsRow _ base 5 1 (.slice A n c) (r.xs.take n).length (ints .u8 (r.xs.take n))
      rw [← HNl.out]
      exact own_keep2 ho HK2.out (fun i hi e => own_far ho HR1.out.blk (by decide) (by rw [hi, e])), fun y hy => H.out.byte y (List.mem_of_mem_take hy), H.out.s0, H.out.s1, H.out.c1, by
      show (r.xs.take n).length ≤ 70000
      rw [← HNl.out]
      omega, Nat.le_trans HR1.out.bs HK2.out.size⟩
  refine bodyPost_ret (v := .tuple #[aggF (fun k => if k = 0 then 161 else 0), .bool true]) (results_row (p := 4) (u := 5) rfl _ _ (w.heap.size + 1) 161 0 0 0 0 0 0 0 rfl (blk8 HB2.out _ _ _ _ _ _ _ _) _ _ rfl rfl) rfl ?_
  refine ⟨rfl, .slice A n c, Lib.hid ⟨HR2.out.keep (keep8 (Keep.refl (Own.One (w.heap.size + 1)) _) (.inl rfl) _ _ _ _ _ _ _ _) (fun i hi e => ?_), keep8 ((HK1.out.mono (S' := RS r g) (fun _ h => h.elim)).trans HK2.out (fun k hk => .inl (.inl hk))) (.inr (by omega)) _ _ _ _ _ _ _ _⟩⟩
  rcases hi with rfl | hi
  · have e' : i = w.heap.size + 1 := e
    omega
  · exact own_far HR2.out.own HB2.out (by decide) (by rw [hi, e])
set_option maxRecDepth 100000 in
set_option maxHeartbeats 1000000 in
/-- The sum differs. -/
theorem end_bad {w : World} {g base : Nat} {r : Rcv} (h : IsRcv w g base r) (F : Nat → Int) (pd n : Nat) (hpd : pd ≤ 7) (hx : r.xs.length = n + pd) (hn : n ≤ 65536) (h0 : F 0 = 193 + 4 * (pd : Int)) (hb : ∀ k, 0 ≤ F k ∧ F k ≤ 255) (hF : ¬ (crc (r.xs.take n) : Int) = F 1 + F 2 * 256) :
    Calls Try.prog 32 #[.pointer (some ⟨g, 0, none⟩), aggF F] w (FeedPost r g base (abF 84148228) true { r with doing := 2, code := 84148228, xs := [] } w) := by
  have H := Lib.hid h
  have hgl := h.blk.lt
  obtain ⟨A, c, hV, hrow, hic, hm, _⟩ := Row.own h.own
  obtain ⟨L, hL⟩ : ∃ L, L = r.xs.length := ⟨_, rfl⟩
  have HL := Lib.hid hL
  have hLn : L = n + pd := by omega
  have HV := Lib.hid hV
  have HRw := Lib.hid hrow
  have HH := Lib.hid (show L ≤ c by rw [hL]; exact hic)
  have k11 : ∀ o o', ((w.alloc o).alloc o').cell? ⟨g, 11, none⟩ = some (.slice A L c) := fun o o' => by
    have e := ((h.blk.alloc o).alloc o').cell 11
    simp only [Rcv.cells, hV, ← hL] at e
    exact e
  have hLb : L ≤ 70000 := by rw [hL]; exact h.big
  obtain ⟨x0, hx0⟩ : ∃ x, x = F 0 := ⟨_, rfl⟩
  obtain ⟨x1, hx1⟩ : ∃ x, x = F 1 := ⟨_, rfl⟩
  obtain ⟨x2, hx2⟩ : ∃ x, x = F 2 := ⟨_, rfl⟩
  have b1 := hb 1
  have b2 := hb 2
  rw [← hx1] at b1 hF
  rw [← hx2] at b2 hF
  have hb1 : bits .and .u8 (x0 / 4) 7 = (pd : Int) := by rw [hx0, h0]; exact (and7 pd hpd).1
  have hor : bits .or .u16 x1 (x2 * 256) = x1 + x2 * 256 := or_u16_8 x1 x2 b1.1 (by omega) b2.1 b2.2
  have hw1 : IntKind.i64.wrap ((L : Int) - (pd : Int)) = (n : Int) := by rw [IntWalk.i64_in _ (by omega)]; omega
  have hw2 : IntKind.u16.wrap (x2 * 256) = x2 * 256 := by rw [IntKind.wrap_u16]; omega
  have hn0 : decide ((n : Int) < 0) = false := by simp
  have hn1 : decide ((65536 : Int) < (n : Int)) = false := by simp; omega
  have HNl : Hid (n = (r.xs.take n).length) := Lib.hid (by rw [List.length_take]; omega)
  have hsl := slice22_h A L c n (by omega) HH.out
  have ha : aggF F = .agg #[.int .u8 x0, .int .u8 x1, .int .u8 x2, .int .u8 (F 3), .int .u8 (F 4), .int .u8 (F 5), .int .u8 (F 6), .int .u8 (F 7)] := by rw [hx0, hx1, hx2]; rfl
  rw [ha]
  obtain ⟨cr, hcr⟩ : ∃ cr, cr = crc (r.xs.take n) := ⟨_, rfl⟩
  rw [← hcr] at hF
  have HCr := Lib.hid hcr
  have HLn := Lib.hid hLn
  clear h hV hrow hic hL hx0 hx1 hx2 h0 ha hb hx hcr hLn
  go_enter Try.func32, Try.ntmps32
  go_wp2_with fail
  go_quiet (fail)
  go_wp2_with fail
  obtain ⟨W0, hW0⟩ : ∃ x, x = ((w.alloc (.cells #[.int .u8 x0, .int .u8 x1, .int .u8 x2, .int .u8 (F 3), .int .u8 (F 4), .int .u8 (F 5), .int .u8 (F 6), .int .u8 (F 7)] 30)).alloc (.cells #[.int .u8 0, .int .u8 0, .int .u8 0, .int .u8 0, .int .u8 0, .int .u8 0, .int .u8 0, .int .u8 0] 30)).drewN nq := ⟨_, rfl⟩
  have HBf : Hid (Blk W0 w.heap.size #[.int .u8 x0, .int .u8 x1, .int .u8 x2, .int .u8 (F 3), .int .u8 (F 4), .int .u8 (F 5), .int .u8 (F 6), .int .u8 (F 7)] 30) := Lib.hid (by rw [hW0]; exact ((Blk.new w _ _).alloc _).drewN _)
  have HBz : Hid (Blk W0 (w.heap.size + 1) #[.int .u8 0, .int .u8 0, .int .u8 0, .int .u8 0, .int .u8 0, .int .u8 0, .int .u8 0, .int .u8 0] 30) := Lib.hid (by rw [hW0]; exact (Blk.at_ (by simp)).drewN _)
  have HK0 : Hid (Keep Own.Zero w W0) := Lib.hid (by rw [hW0]; exact (((Keep.refl Own.Zero w).alloc _).alloc _).drewN _)
  have HR0 : Hid (IsRcv W0 g base r) := Lib.hid (H.out.keep HK0.out (fun _ _ => id))
  have HCRC : Hid (∀ m, Calls Try.prog 25 #[.slice A n c] (W0.drewN m) fun e w' => e = .returned (.int .u16 cr) ∧ W0.drewN m = w') := Lib.hid (fun m => CRC_n A c (r.xs.take n) n HNl.out cr HCr.out (Row.take (HRw.out.keep (HK0.out.drewN m) (fun _ _ _ => id)) n) (fun y hy => H.out.byte y (List.mem_of_mem_take hy)) (by rw [← HNl.out]; omega))
  have y0 : W0.cell? ⟨w.heap.size, 0, none⟩ = some (.int .u8 x0) := HBf.out.cell 0
  have y1 : W0.cell? ⟨w.heap.size, 1, none⟩ = some (.int .u8 x1) := HBf.out.cell 1
  have y2 : W0.cell? ⟨w.heap.size, 2, none⟩ = some (.int .u8 x2) := HBf.out.cell 2
  have k11 : W0.cell? ⟨g, 11, none⟩ = some (.slice A L c) := by
    have e := HR0.out.blk.cell 11
    simp only [Rcv.cells, HV.out, ← HL.out] at e
    exact e
  rw [← hW0]
  clear hW0
  have hF2 : ((cr : Int) != x1 + x2 * 256) = true := by simp [hF]
  go_quiet ((go_at_call 25; exact quiet_eq (HCRC.out _)))
  obtain ⟨W1, hW1⟩ : ∃ x, x = W0.drewN nq := ⟨_, rfl⟩
  have HB1 : Hid (Blk W1 (w.heap.size + 1) #[.int .u8 0, .int .u8 0, .int .u8 0, .int .u8 0, .int .u8 0, .int .u8 0, .int .u8 0, .int .u8 0] 30) := Lib.hid (by rw [hW1]; exact HBz.out.drewN _)
  have HK1 : Hid (Keep Own.Zero w W1) := Lib.hid (by rw [hW1]; exact HK0.out.drewN _)
  have HR1 : Hid (IsRcv W1 g base r) := Lib.hid (H.out.keep HK1.out (fun _ _ => id))
  rw [← hW1]
  clear hW1 k11 y0 y1 y2 hb1 hor hw1 hw2 hF
  go_wp2_with fail
  refine (gives_ok HR1.out 84148228 (by decide)).mono ?_
  rintro e w6 ⟨rfl, hp⟩
  have HR6 := Lib.hid hp.out.1
  have HB6 : Hid (Blk w6 (w.heap.size + 1) #[.int .u8 0, .int .u8 0, .int .u8 0, .int .u8 0, .int .u8 0, .int .u8 0, .int .u8 0, .int .u8 0] 30) := Lib.hid (HB1.out.keep hp.out.2 (fun e => by have e' : w.heap.size + 1 = g := e; omega))
  have HK6 : Hid (Keep (RS r g) w w6) := Lib.hid ((HK1.out.mono (S' := RS r g) (fun _ h => h.elim)).trans hp.out.2 (fun k hk => .inl (.inl hk)))
  clear hp
  have z0 := (HB6.out).cell 0
  have z1 := (HB6.out).cell 1
  have z2 := (HB6.out).cell 2
  have z3 := (HB6.out).cell 3
  have z4 := (HB6.out).cell 4
  have z5 := (HB6.out).cell 5
  have z6 := (HB6.out).cell 6
  have z7 := (HB6.out).cell 7
  have zf0 := (HB6.out).frozen 0
  have zf1 := (HB6.out).frozen 1
  have zf2 := (HB6.out).frozen 2
  have zf3 := (HB6.out).frozen 3
  have zf4 := (HB6.out).frozen 4
  have zf5 := (HB6.out).frozen 5
  have zf6 := (HB6.out).frozen 6
  have zf7 := (HB6.out).frozen 7
  simp only [List.getElem?_toArray, List.getElem?_cons_zero, List.getElem?_cons_succ] at z0 z1 z2 z3 z4 z5 z6 z7
  have hG : aggF (abF 84148228) = .agg #[.int .u8 (abF 84148228 0), .int .u8 (abF 84148228 1), .int .u8 (abF 84148228 2), .int .u8 (abF 84148228 3), .int .u8 (abF 84148228 4), .int .u8 (abF 84148228 5), .int .u8 (abF 84148228 6), .int .u8 (abF 84148228 7)] := rfl
  rw [hG]
  clear hG
  go_wp2_with fail
  refine bodyPost_ret (v := .tuple #[aggF (abF 84148228), .bool true]) (results_row (p := 4) (u := 5) rfl _ _ (w.heap.size + 1) (abF 84148228 0) (abF 84148228 1) (abF 84148228 2) (abF 84148228 3) (abF 84148228 4) (abF 84148228 5) (abF 84148228 6) (abF 84148228 7) rfl (blk8 HB6.out _ _ _ _ _ _ _ _) _ _ rfl rfl) rfl ?_
  refine ⟨rfl, .slice none 0 0, Lib.hid ⟨HR6.out.keep (keep8 (Keep.refl (Own.One (w.heap.size + 1)) _) (.inl rfl) _ _ _ _ _ _ _ _) (fun i hi e => ?_), keep8 HK6.out (.inr (by omega)) _ _ _ _ _ _ _ _⟩⟩
  rcases hi with rfl | hi
  · have e' : i = w.heap.size + 1 := e
    omega
  · cases hi
end Go.Proofs.Ytdmomhbimhggiaa.Block
