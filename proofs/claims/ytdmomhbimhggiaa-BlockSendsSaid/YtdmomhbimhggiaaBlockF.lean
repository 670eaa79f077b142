/- The receiver's other calls. -/
import Derived.Test.YtdmomhbimhggiaaBlockE
namespace Go.Proofs.Ytdmomhbimhggiaa.Block
open Go.RowKit Go.Proofs.Ytdmomhbimhggiaa.Own Go.Proofs.Ytdmomhbimhggiaa.Crc
theorem size30' : (Try.prog.info? 30).map (·.size) = some 8 := by kernel_rfl
theorem results_row1 {fn : Func} {p : Tmp} (h : fn.results = #[.cell p 30]) (tmps : Array Value) (w : World) (b : Nat) (x0 x1 x2 x3 x4 x5 x6 x7 : Int) (hp : tmps.getD p undef = .pointer (some ⟨b, 0, none⟩))
    (hb : Blk w b #[.int .u8 x0, .int .u8 x1, .int .u8 x2, .int .u8 x3, .int .u8 x4, .int .u8 x5, .int .u8 x6, .int .u8 x7] 30) (v : Value) (hv : v = .agg #[.int .u8 x0, .int .u8 x1, .int .u8 x2, .int .u8 x3, .int .u8 x4, .int .u8 x5, .int .u8 x6, .int .u8 x7]) :
    (results fn tmps).run Try.prog w = .ok v w := by
  subst hv
  exact results_cell_row h tmps w b 30 _ (0, 0) _ hp hb under30 rfl size30'
/-- An abort's frame. -/
def abF (c : Nat) (k : Nat) : Int := if k = 0 then 128 else if k < 4 then 0 else if k = 4 then (c : Int) % 256 else if k = 5 then (c : Int) / 256 % 256 else if k = 6 then (c : Int) / 65536 % 256 else (c : Int) / 16777216 % 256
set_option maxRecDepth 100000 in
set_option maxHeartbeats 1000000 in
theorem frame37 (w : World) (c : Nat) (_hc : c < 4294967296) :
    Calls Try.prog 37 #[.agg #[.int .u16 0, .int .u8 0], .int .u8 128, .int .u32 c] w fun e w' => e = .returned (aggF (abF c)) ∧ Hid (Keep Own.Zero w w') := by
  have h1 : IntKind.u8.wrap (c : Int) = (c : Int) % 256 := IntKind.wrap_u8' _
  have h2 : IntKind.u8.wrap ((c : Int) / 256) = (c : Int) / 256 % 256 := IntKind.wrap_u8' _
  have h3 : IntKind.u8.wrap ((c : Int) / 65536) = (c : Int) / 65536 % 256 := IntKind.wrap_u8' _
  have h4 : IntKind.u8.wrap ((c : Int) / 16777216) = (c : Int) / 16777216 % 256 := IntKind.wrap_u8' _
  go_enter Try.func37, Try.ntmps37
  go_wp2_with fail
  refine bodyPost_ret (v := aggF (abF c)) (results_row1 (p := 6) rfl _ _ (w.heap.size + 1) 128 0 0 0 ((c : Int) % 256) ((c : Int) / 256 % 256) ((c : Int) / 65536 % 256) ((c : Int) / 16777216 % 256) rfl (Blk.at_ (by simp)) _ rfl) rfl ?_
  exact ⟨rfl, Lib.hid (((Keep.refl _ _).alloc _).alloc _)⟩
set_option maxRecDepth 100000 in
set_option maxHeartbeats 1000000 in
theorem Abort_is (w : World) (c : Nat) (hc : c < 4294967296) :
    Calls Try.prog 34 #[.int .u16 0, .int .u8 0, .int .u32 c] w fun e w' => e = .returned (aggF (abF c)) ∧ Hid (Keep Own.Zero w w') := by
  go_enter Try.func34, Try.ntmps34
  go_wp2_with fail
  refine (frame37 _ c hc).mono ?_
  rintro e w1 ⟨rfl, hk⟩
  have HB1 : Hid (Blk w1 w.heap.size #[.int .u8 0, .int .u8 0, .int .u8 0, .int .u8 0, .int .u8 0, .int .u8 0, .int .u8 0, .int .u8 0] 30) := Lib.hid ((Blk.new w _ _).keep hk.out id)
  have HK1 : Hid (Keep Own.Zero w w1) := Lib.hid (((Keep.refl Own.Zero w).alloc _).trans hk.out (fun _ h => h.elim))
  clear hk
  have z0 := (HB1.out).cell 0
  have z1 := (HB1.out).cell 1
  have z2 := (HB1.out).cell 2
  have z3 := (HB1.out).cell 3
  have z4 := (HB1.out).cell 4
  have z5 := (HB1.out).cell 5
  have z6 := (HB1.out).cell 6
  have z7 := (HB1.out).cell 7
  have zf0 := (HB1.out).frozen 0
  have zf1 := (HB1.out).frozen 1
  have zf2 := (HB1.out).frozen 2
  have zf3 := (HB1.out).frozen 3
  have zf4 := (HB1.out).frozen 4
  have zf5 := (HB1.out).frozen 5
  have zf6 := (HB1.out).frozen 6
  have zf7 := (HB1.out).frozen 7
  simp only [List.getElem?_toArray, List.getElem?_cons_zero, List.getElem?_cons_succ] at z0 z1 z2 z3 z4 z5 z6 z7
  unfold aggF
  go_wp2_with fail
  refine bodyPost_ret (v := aggF (abF c)) (results_row1 (p := 6) rfl _ _ w.heap.size (abF c 0) (abF c 1) (abF c 2) (abF c 3) (abF c 4) (abF c 5) (abF c 6) (abF c 7) rfl (blk8 HB1.out _ _ _ _ _ _ _ _) _ rfl) rfl ?_
  exact ⟨rfl, Lib.hid (keep8 HK1.out (.inr (Nat.le_refl _)) _ _ _ _ _ _ _ _)⟩
/-- What a call of the receiver hands back, and leaves. -/
def FeedPost (r : Rcv) (g base : Nat) (G : Nat → Int) (b : Bool) (r2 : Rcv) (w : World) (e : Ending) (w' : World) : Prop :=
  e = .returned (.tuple #[aggF G, .bool b]) ∧ ∃ V, Hid (IsRcv w' g base { r2 with V := V } ∧ Keep (RS r g) w w')
theorem take_feed {r : Rcv} {g base q : Nat} {fl : Bool} {F : Nat → Int} {w : World} {e : Ending} {w' : World} (h : TakePost r g base q fl F w e w') :
    FeedPost r g base (if fl || q == r.size then ansF q r.size else fun _ => 0) (fl || q == r.size) (if fl || q == r.size then { r with doing := if fl then 1 else r.doing, came := 0, last := ansF q r.size, xs := r.xs ++ seven F } else { r with came := q, xs := r.xs ++ seven F }) w e w' := by
  obtain ⟨V, rfl, hp⟩ := h
  refine ⟨?_, V, Lib.hid ⟨?_, hp.out.2⟩⟩
  · split <;> rfl
  · have h := hp.out.1
    revert h
    split <;> exact id
theorem none_keep {r : Rcv} {g : Nat} {w : World} {S : Nat → Prop} {w1 : World} (k : Keep S w w1) (hs : ∀ i, S i → RS r g i) : Keep (RS r g) w w1 := k.mono hs
set_option maxRecDepth 100000 in
set_option maxHeartbeats 1000000 in
/-- A segment that does not fit. -/
theorem takes_skip {w : World} {g base : Nat} {r : Rcv} (h : IsRcv w g base r) (q : Nat) (fl : Bool) (hq : q ≠ r.came + 1) (hq1 : q ≤ 127) (F : Nat → Int) (h0 : F 0 = (q : Int) + (if fl then 128 else 0)) :
    Calls Try.prog 31 #[.pointer (some ⟨g, 0, none⟩), aggF F] w (FeedPost r g base (fun _ => 0) false r w) := by
  have H := Lib.hid h
  obtain ⟨x0, hx0⟩ : ∃ x, x = F 0 := ⟨_, rfl⟩
  obtain ⟨cm, hcm⟩ : ∃ cm, cm = r.came := ⟨_, rfl⟩
  have HX0 := Lib.hid hx0
  have HCm := Lib.hid hcm
  have hgl := h.blk.lt
  have hc1 : cm ≤ 127 := by rw [hcm]; exact h.c1
  have hb1 : bits .andNot .u8 x0 128 = (q : Int) := by
    rw [hx0, h0]
    cases fl
    · simpa using (andNot128 q hq1).1
    · exact (andNot128 q hq1).2.1
  have c2 : w.cell? ⟨g, 2, none⟩ = some (.int .i64 cm) := by rw [hcm]; exact h.blk.cell 2
  have hne : ¬ (q : Int) = (cm : Int) + 1 := by omega
  unfold aggF
  rw [← hx0]
  clear h hx0 hcm hq h0
  go_enter Try.func31, Try.ntmps31
  go_wp2_with fail
  go_quiet (fail)
  obtain ⟨W0, hW0⟩ : ∃ x, x = ((w.alloc (.cells #[.int .u8 x0, .int .u8 (F 1), .int .u8 (F 2), .int .u8 (F 3), .int .u8 (F 4), .int .u8 (F 5), .int .u8 (F 6), .int .u8 (F 7)] 30)).alloc (.cells #[.int .u8 0, .int .u8 0, .int .u8 0, .int .u8 0, .int .u8 0, .int .u8 0, .int .u8 0, .int .u8 0] 30)).drewN nq := ⟨_, rfl⟩
  have HBz : Hid (Blk W0 (w.heap.size + 1) #[.int .u8 0, .int .u8 0, .int .u8 0, .int .u8 0, .int .u8 0, .int .u8 0, .int .u8 0, .int .u8 0] 30) := Lib.hid (by rw [hW0]; exact (Blk.at_ (by simp)).drewN _)
  have HK0 : Hid (Keep Own.Zero w W0) := Lib.hid (by rw [hW0]; exact (((Keep.refl Own.Zero w).alloc _).alloc _).drewN _)
  rw [← hW0]
  clear hW0 c2 hb1 hc1
  have z0 := (HBz.out).cell 0
  have z1 := (HBz.out).cell 1
  have z2 := (HBz.out).cell 2
  have z3 := (HBz.out).cell 3
  have z4 := (HBz.out).cell 4
  have z5 := (HBz.out).cell 5
  have z6 := (HBz.out).cell 6
  have z7 := (HBz.out).cell 7
  have zf0 := (HBz.out).frozen 0
  have zf1 := (HBz.out).frozen 1
  have zf2 := (HBz.out).frozen 2
  have zf3 := (HBz.out).frozen 3
  have zf4 := (HBz.out).frozen 4
  have zf5 := (HBz.out).frozen 5
  have zf6 := (HBz.out).frozen 6
  have zf7 := (HBz.out).frozen 7
  simp only [List.getElem?_toArray, List.getElem?_cons_zero, List.getElem?_cons_succ] at z0 z1 z2 z3 z4 z5 z6 z7
  go_wp2_with fail
  refine bodyPost_ret (v := .tuple #[aggF (fun _ => 0), .bool false]) (results_row (p := 4) (u := 5) rfl _ _ (w.heap.size + 1) 0 0 0 0 0 0 0 0 rfl (blk8 HBz.out _ _ _ _ _ _ _ _) _ _ rfl rfl) rfl ?_
  have hk := keep8 HK0.out (b := w.heap.size + 1) (.inr (by omega)) (.int .u8 0) (.int .u8 0) (.int .u8 0) (.int .u8 0) (.int .u8 0) (.int .u8 0) (.int .u8 0) (.int .u8 0)
  exact ⟨rfl, r.V, Lib.hid ⟨H.out.keep hk (fun _ _ => id), hk.mono (fun _ h => h.elim)⟩⟩
set_option maxRecDepth 100000 in
set_option maxHeartbeats 1000000 in
/-- Feed, where segments are taken. -/
theorem RFeed_0 {w : World} {g base : Nat} {r : Rcv} (h : IsRcv w g base r) (hd : r.doing = 0) (F G : Nat → Int) (bb : Bool) (r2 : Rcv) (ht : ∀ W, Keep Own.Zero w W → Calls Try.prog 31 #[.pointer (some ⟨g, 0, none⟩), aggF F] W (FeedPost r g base G bb r2 W)) :
    Calls Try.prog 16 #[.pointer (some ⟨g, 0, none⟩), aggF F] w (FeedPost r g base G bb r2 w) := by
  have H := Lib.hid h
  have HT := Lib.hid ht
  have hgl := h.blk.lt
  have c1 : ∀ o o', ((w.alloc o).alloc o').cell? ⟨g, 1, none⟩ = some (.int .i64 0) := fun o o' => by
    have e := ((h.blk.alloc o).alloc o').cell 1
    simp only [Rcv.cells, hd] at e
    exact e
  have k1 : w.cell? ⟨g, 1, none⟩ = some (.int .i64 0) := by
    have e := h.blk.cell 1
    simp only [Rcv.cells, hd] at e
    exact e
  clear h hd ht
  have ha : aggF F = .agg #[.int .u8 (F 0), .int .u8 (F 1), .int .u8 (F 2), .int .u8 (F 3), .int .u8 (F 4), .int .u8 (F 5), .int .u8 (F 6), .int .u8 (F 7)] := rfl
  have HA := Lib.hid ha
  rw [ha]
  clear ha
  go_enter Try.func16, Try.ntmps16
  go_wp2_with fail
  obtain ⟨W0, hW0⟩ : ∃ x, x = (w.alloc (.cells #[.int .u8 (F 0), .int .u8 (F 1), .int .u8 (F 2), .int .u8 (F 3), .int .u8 (F 4), .int .u8 (F 5), .int .u8 (F 6), .int .u8 (F 7)] 30)).alloc (.cells #[.int .u8 0, .int .u8 0, .int .u8 0, .int .u8 0, .int .u8 0, .int .u8 0, .int .u8 0, .int .u8 0] 30) := ⟨_, rfl⟩
  have HBz : Hid (Blk W0 (w.heap.size + 1) #[.int .u8 0, .int .u8 0, .int .u8 0, .int .u8 0, .int .u8 0, .int .u8 0, .int .u8 0, .int .u8 0] 30) := Lib.hid (by rw [hW0]; exact Blk.at_ (by simp))
  have HK0 : Hid (Keep Own.Zero w W0) := Lib.hid (by rw [hW0]; exact ((Keep.refl Own.Zero w).alloc _).alloc _)
  rw [← hW0]
  clear hW0
  have hcall := HT.out W0 HK0.out
  rw [HA.out] at hcall
  refine hcall.mono ?_
  clear hcall
  rintro e w6 ⟨rfl, V, hp⟩
  have HR6 := Lib.hid hp.out.1
  have HB6 : Hid (Blk w6 (w.heap.size + 1) #[.int .u8 0, .int .u8 0, .int .u8 0, .int .u8 0, .int .u8 0, .int .u8 0, .int .u8 0, .int .u8 0] 30) := Lib.hid (HBz.out.keep hp.out.2 (fun e => by
    rcases e with e | e
    · omega
    · exact own_far (H.out.keep HK0.out (fun _ _ => id)).own HBz.out (by decide) e))
  have HK6 : Hid (Keep (RS r g) w w6) := Lib.hid (HK0.out.mono (S' := RS r g) (fun _ h => h.elim) |>.trans hp.out.2 (fun k hk => .inl hk))
  clear hp
  have z0 := (HB6.out).cell 0
  have z1 := (HB6.out).cell 1
  have z2 := (HB6.out).cell 2
  have z3 := (HB6.out).cell 3
  have z4 := (HB6.out).cell 4
  have z5 := (HB6.out).cell 5
  have z6 := (HB6.out).cell 6
  have z7 := (HB6.out).cell 7
  have zf0 := (HB6.out).frozen 0
  have zf1 := (HB6.out).frozen 1
  have zf2 := (HB6.out).frozen 2
  have zf3 := (HB6.out).frozen 3
  have zf4 := (HB6.out).frozen 4
  have zf5 := (HB6.out).frozen 5
  have zf6 := (HB6.out).frozen 6
  have zf7 := (HB6.out).frozen 7
  simp only [List.getElem?_toArray, List.getElem?_cons_zero, List.getElem?_cons_succ] at z0 z1 z2 z3 z4 z5 z6 z7
  have hG : aggF G = .agg #[.int .u8 (G 0), .int .u8 (G 1), .int .u8 (G 2), .int .u8 (G 3), .int .u8 (G 4), .int .u8 (G 5), .int .u8 (G 6), .int .u8 (G 7)] := rfl
  rw [hG]
  clear hG
  go_wp2_with fail
  refine bodyPost_ret (v := .tuple #[aggF G, .bool bb]) (results_row (p := 4) (u := 5) rfl _ _ (w.heap.size + 1) (G 0) (G 1) (G 2) (G 3) (G 4) (G 5) (G 6) (G 7) rfl (blk8 HB6.out _ _ _ _ _ _ _ _) _ _ rfl rfl) rfl ?_
  refine ⟨rfl, V, Lib.hid ⟨HR6.out.keep (keep8 (Keep.refl (Own.One (w.heap.size + 1)) w6) (.inl rfl) _ _ _ _ _ _ _ _) (fun i hi e => ?_), keep8 HK6.out (.inr (by omega)) _ _ _ _ _ _ _ _⟩⟩
  rcases hi with rfl | hi
  · have e' : i = w.heap.size + 1 := e
    omega
  · exact own_far HR6.out.own HB6.out (by decide) (by rw [hi, e])
theorem and7 (pd : Nat) (h : pd ≤ 7) : bits .and .u8 ((193 + 4 * (pd : Int)) / 4) 7 = (pd : Int) ∧ bits .and .u8 (193 + 4 * (pd : Int)) 1 = 1 ∧ (193 + 4 * (pd : Int)) / 32 = 6 := by
  have h : ∀ i : Fin 8, bits .and .u8 ((193 + 4 * (i.val : Int)) / 4) 7 = (i.val : Int) ∧ bits .and .u8 (193 + 4 * (i.val : Int)) 1 = 1 ∧ (193 + 4 * (i.val : Int)) / 32 = 6 := by decide
  exact h ⟨pd, by omega⟩
set_option maxRecDepth 100000 in
set_option maxHeartbeats 1000000 in
/-- Feed, where the end comes. -/
theorem RFeed_1 {w : World} {g base : Nat} {r : Rcv} (h : IsRcv w g base r) (hd : r.doing = 1) (F G : Nat → Int) (pd : Nat) (hpd : pd ≤ 7) (h0 : F 0 = 193 + 4 * (pd : Int)) (bb : Bool) (r2 : Rcv) (ht : ∀ W, Keep Own.Zero w W → Calls Try.prog 32 #[.pointer (some ⟨g, 0, none⟩), aggF F] W (FeedPost r g base G bb r2 W)) :
    Calls Try.prog 16 #[.pointer (some ⟨g, 0, none⟩), aggF F] w (FeedPost r g base G bb r2 w) := by
  have H := Lib.hid h
  have HT := Lib.hid ht
  have hgl := h.blk.lt
  have k1 : w.cell? ⟨g, 1, none⟩ = some (.int .i64 1) := by
    have e := h.blk.cell 1
    simp only [Rcv.cells, hd] at e
    exact e
  have hb1 : bits .and .u8 (F 0) 1 = 1 := by rw [h0]; exact (and7 pd hpd).2.1
  have hb2 : F 0 / 32 = 6 := by rw [h0]; exact (and7 pd hpd).2.2
  clear h hd ht h0
  have ha : aggF F = .agg #[.int .u8 (F 0), .int .u8 (F 1), .int .u8 (F 2), .int .u8 (F 3), .int .u8 (F 4), .int .u8 (F 5), .int .u8 (F 6), .int .u8 (F 7)] := rfl
  have HA := Lib.hid ha
  rw [ha]
  clear ha
  go_enter Try.func16, Try.ntmps16
  go_wp2_with fail
  obtain ⟨W0, hW0⟩ : ∃ x, x = (w.alloc (.cells #[.int .u8 (F 0), .int .u8 (F 1), .int .u8 (F 2), .int .u8 (F 3), .int .u8 (F 4), .int .u8 (F 5), .int .u8 (F 6), .int .u8 (F 7)] 30)).alloc (.cells #[.int .u8 0, .int .u8 0, .int .u8 0, .int .u8 0, .int .u8 0, .int .u8 0, .int .u8 0, .int .u8 0] 30) := ⟨_, rfl⟩
  have HBz : Hid (Blk W0 (w.heap.size + 1) #[.int .u8 0, .int .u8 0, .int .u8 0, .int .u8 0, .int .u8 0, .int .u8 0, .int .u8 0, .int .u8 0] 30) := Lib.hid (by rw [hW0]; exact Blk.at_ (by simp))
  have HK0 : Hid (Keep Own.Zero w W0) := Lib.hid (by rw [hW0]; exact ((Keep.refl Own.Zero w).alloc _).alloc _)
  rw [← hW0]
  clear hW0
  have hcall := HT.out W0 HK0.out
  rw [HA.out] at hcall
  refine hcall.mono ?_
  clear hcall
  rintro e w6 ⟨rfl, V, hp⟩
  have HR6 := Lib.hid hp.out.1
  have HB6 : Hid (Blk w6 (w.heap.size + 1) #[.int .u8 0, .int .u8 0, .int .u8 0, .int .u8 0, .int .u8 0, .int .u8 0, .int .u8 0, .int .u8 0] 30) := Lib.hid (HBz.out.keep hp.out.2 (fun e => by
    rcases e with e | e
    · omega
    · exact own_far (H.out.keep HK0.out (fun _ _ => id)).own HBz.out (by decide) e))
  have HK6 : Hid (Keep (RS r g) w w6) := Lib.hid (HK0.out.mono (S' := RS r g) (fun _ h => h.elim) |>.trans hp.out.2 (fun k hk => .inl hk))
  clear hp
  have z0 := (HB6.out).cell 0
  have z1 := (HB6.out).cell 1
  have z2 := (HB6.out).cell 2
  have z3 := (HB6.out).cell 3
  have z4 := (HB6.out).cell 4
  have z5 := (HB6.out).cell 5
  have z6 := (HB6.out).cell 6
  have z7 := (HB6.out).cell 7
  have zf0 := (HB6.out).frozen 0
  have zf1 := (HB6.out).frozen 1
  have zf2 := (HB6.out).frozen 2
  have zf3 := (HB6.out).frozen 3
  have zf4 := (HB6.out).frozen 4
  have zf5 := (HB6.out).frozen 5
  have zf6 := (HB6.out).frozen 6
  have zf7 := (HB6.out).frozen 7
  simp only [List.getElem?_toArray, List.getElem?_cons_zero, List.getElem?_cons_succ] at z0 z1 z2 z3 z4 z5 z6 z7
  have hG : aggF G = .agg #[.int .u8 (G 0), .int .u8 (G 1), .int .u8 (G 2), .int .u8 (G 3), .int .u8 (G 4), .int .u8 (G 5), .int .u8 (G 6), .int .u8 (G 7)] := rfl
  rw [hG]
  clear hG
  go_wp2_with fail
  refine bodyPost_ret (v := .tuple #[aggF G, .bool bb]) (results_row (p := 4) (u := 5) rfl _ _ (w.heap.size + 1) (G 0) (G 1) (G 2) (G 3) (G 4) (G 5) (G 6) (G 7) rfl (blk8 HB6.out _ _ _ _ _ _ _ _) _ _ rfl rfl) rfl ?_
  refine ⟨rfl, V, Lib.hid ⟨HR6.out.keep (keep8 (Keep.refl (Own.One (w.heap.size + 1)) w6) (.inl rfl) _ _ _ _ _ _ _ _) (fun i hi e => ?_), keep8 HK6.out (.inr (by omega)) _ _ _ _ _ _ _ _⟩⟩
  rcases hi with rfl | hi
  · have e' : i = w.heap.size + 1 := e
    omega
  · exact own_far HR6.out.own HB6.out (by decide) (by rw [hi, e])
end Go.Proofs.Ytdmomhbimhggiaa.Block
