/- The document's sender: its calls. -/
import Derived.Test.YtdmomhbimhggiaaBlockO
namespace Go.Proofs.Ytdmomhbimhggiaa.Block
open Go.RowKit Go.Proofs.Ytdmomhbimhggiaa.Own Go.Proofs.Ytdmomhbimhggiaa.Crc
set_option maxRecDepth 100000 in
set_option maxHeartbeats 2000000 in
theorem Frame_is (w : World) (c : Nat) (hc : c < 4294967296) :
    Calls Try.prog 35 #[.int .u8 128, .int .u16 0, .int .u8 0, .int .u32 c] w fun e w' => e = .returned (aggF (abF c)) ∧ Hid (Keep Own.Zero w w') := by
  have t1 : (c : Int).tmod 256 = (c : Int) % 256 := Int.tmod_eq_emod_of_nonneg (by omega)
  have t2 : (c : Int).tdiv 256 = (c : Int) / 256 := Int.tdiv_eq_ediv_of_nonneg (by omega)
  have t3 : (c : Int).tdiv 65536 = (c : Int) / 65536 := Int.tdiv_eq_ediv_of_nonneg (by omega)
  have t4 : (c : Int).tdiv 16777216 = (c : Int) / 16777216 := Int.tdiv_eq_ediv_of_nonneg (by omega)
  have t5 : ((c : Int) / 256).tmod 256 = (c : Int) / 256 % 256 := Int.tmod_eq_emod_of_nonneg (by omega)
  have t6 : ((c : Int) / 65536).tmod 256 = (c : Int) / 65536 % 256 := Int.tmod_eq_emod_of_nonneg (by omega)
  have u1 : IntKind.u8.wrap ((c : Int) % 256) = (c : Int) % 256 := by rw [IntKind.wrap_u8']; omega
  have u2 : IntKind.u8.wrap ((c : Int) / 256 % 256) = (c : Int) / 256 % 256 := by rw [IntKind.wrap_u8']; omega
  have u3 : IntKind.u8.wrap ((c : Int) / 65536 % 256) = (c : Int) / 65536 % 256 := by rw [IntKind.wrap_u8']; omega
  have u4 : IntKind.u8.wrap ((c : Int) / 16777216) = (c : Int) / 16777216 := by rw [IntKind.wrap_u8']; omega
  have HE : Hid ((c : Int) / 16777216 = (c : Int) / 16777216 % 256) := Lib.hid (by omega)
  go_enter Try.func35, Try.ntmps35
  go_wp2_with fail
  refine bodyPost_ret (v := aggF (abF c)) (results_row1 (p := 8) rfl _ _ w.heap.size 128 0 0 0 ((c : Int) % 256) ((c : Int) / 256 % 256) ((c : Int) / 65536 % 256) ((c : Int) / 16777216) rfl (Blk.at_ (by simp)) _ (by
    conv => rhs; rw [HE.out]
    rfl)) rfl ?_
  exact ⟨rfl, Lib.hid ((Keep.refl _ _).alloc _)⟩
set_option maxRecDepth 100000 in
set_option maxHeartbeats 2000000 in
theorem number_is (w : World) (F : Nat → Int) (hF : ∀ k, 0 ≤ F k ∧ F k ≤ 255) : Calls Try.prog 27 #[aggF F] w fun e w' => e = .returned (.int .u32 (numF F)) ∧ Hid (Keep Own.Zero w w') := by
  have h4 := hF 4
  have h5 := hF 5
  have h6 := hF 6
  have h7 := hF 7
  have o1 : IntKind.u32.wrap (256 * F 5) = 256 * F 5 := by rw [IntKind.wrap_u32]; omega
  have o2 : IntKind.u32.wrap (65536 * F 6) = 65536 * F 6 := by rw [IntKind.wrap_u32]; omega
  have o3 : IntKind.u32.wrap (16777216 * F 7) = 16777216 * F 7 := by rw [IntKind.wrap_u32]; omega
  have o4 : IntKind.u32.wrap (F 4 + 256 * F 5) = F 4 + 256 * F 5 := by rw [IntKind.wrap_u32]; omega
  have o5 : IntKind.u32.wrap (F 4 + 256 * F 5 + 65536 * F 6) = F 4 + 256 * F 5 + 65536 * F 6 := by rw [IntKind.wrap_u32]; omega
  have o6 : IntKind.u32.wrap (F 4 + 256 * F 5 + 65536 * F 6 + 16777216 * F 7) = F 4 + 256 * F 5 + 65536 * F 6 + 16777216 * F 7 := by rw [IntKind.wrap_u32]; omega
  unfold aggF numF
  go_enter Try.func27, Try.ntmps27
  go_wp2_with fail
  go_ret
  exact ⟨rfl, Lib.hid ((Keep.refl _ _).alloc _)⟩
def DGivesPost (g : Nat) (d : Doc) (c : Nat) (w : World) (e : Ending) (w' : World) : Prop := ∃ A q, e = .returned (.slice A 1 q) ∧ Hid (IsDoc w' g { d with wait := 3, code := c } ∧ FrAt w' w.heap.size A 1 q [abF c] ∧ Keep (Own.One g) w w')
set_option maxRecDepth 100000 in
set_option maxHeartbeats 2000000 in
theorem dgives_ok {w : World} {g : Nat} {d : Doc} (h : IsDoc w g d) (c : Nat) (hc : c < 4294967296) :
    Calls Try.prog 28 #[.pointer (some ⟨g, 0, none⟩), .int .u32 c] w (DGivesPost g d c w) := by
  have H := Lib.hid h
  have hgl := h.blk.lt
  have k3 := h.blk.cell 3
  have k4 := h.blk.cell 4
  simp only [Doc.cells] at k3 k4
  have f3 := h.blk.frozen 3
  have f4 := h.blk.frozen 4
  clear h
  go_enter Try.func28, Try.ntmps28
  go_wp2_with fail
  refine (Frame_is _ c hc).mono ?_
  rintro e w1 ⟨rfl, hk⟩
  have HKa : Hid (Keep (Own.One g) w ((w.setCell ⟨g, 3, none⟩ (.int .i64 3)).setCell ⟨g, 4, none⟩ (.int .u32 c))) := Lib.hid (((Keep.refl (Own.One g) w).set1 3 _).set1 4 _)
  have HSa : Hid (IsDoc ((w.setCell ⟨g, 3, none⟩ (.int .i64 3)).setCell ⟨g, 4, none⟩ (.int .u32 c)) g { d with wait := 3, code := c }) := Lib.hid ((H.out.put 3 (.int .i64 3) { d with wait := 3 } (by simp [Doc.cells]) rfl rfl rfl H.out.atb).put 4 _ _ (by simp [Doc.cells]) rfl rfl rfl H.out.atb)
  have HS1 := Lib.hid (HSa.out.keep hk.out id (fun _ _ _ => id))
  have HK1 : Hid (Keep (Own.One g) w w1) := Lib.hid (HKa.out.trans hk.out (fun _ h => h.elim))
  clear hk
  rw [show aggF (abF c) = .agg #[.int .u8 (abF c 0), .int .u8 (abF c 1), .int .u8 (abF c 2), .int .u8 (abF c 3), .int .u8 (abF c 4), .int .u8 (abF c 5), .int .u8 (abF c 6), .int .u8 (abF c 7)] from rfl]
  go_wp2_with fail
  go_ret
  exact ⟨_, _, rfl, Lib.hid ⟨HS1.out.alloc _, fr_one (Blk.new w1 _ _) HK1.out.size, HK1.out.alloc _⟩⟩
theorem dgives_from {w0 w w' : World} {g c : Nat} {d : Doc} {e : Ending} (k : Keep (Own.One g) w0 w) (h : DGivesPost g d c w e w') : DGivesPost g d c w0 e w' := by
  obtain ⟨A, q, rfl, hp⟩ := h
  exact ⟨A, q, rfl, Lib.hid ⟨hp.out.1, own_mono hp.out.2.1 k.size, k.trans hp.out.2.2 (fun k hk => .inl hk)⟩⟩
set_option maxRecDepth 100000 in
set_option maxHeartbeats 2000000 in
theorem DFeed_deaf {w : World} {g : Nat} {d : Doc} (h : IsDoc w g d) (hw : d.wait = 0 ∨ d.wait = 3) (F : Nat → Int) :
    Calls Try.prog 13 #[.pointer (some ⟨g, 0, none⟩), aggF F] w fun e w' => e = .returned (.slice none 0 0) ∧ Hid (IsDoc w' g d ∧ Keep (Own.One g) w w') := by
  have H := Lib.hid h
  have hgl := h.blk.lt
  have c1 : ∀ o, (w.alloc o).cell? ⟨g, 1, none⟩ = some (.int .i64 d.at') := fun o => (h.blk.alloc o).cell 1
  have c2 : ∀ o, (w.alloc o).cell? ⟨g, 2, none⟩ = some (.int .i64 d.many) := fun o => (h.blk.alloc o).cell 2
  have c3 : ∀ o, (w.alloc o).cell? ⟨g, 3, none⟩ = some (.int .i64 d.wait) := fun o => (h.blk.alloc o).cell 3
  have c4 : ∀ o, (w.alloc o).cell? ⟨g, 4, none⟩ = some (.int .u32 d.code) := fun o => (h.blk.alloc o).cell 4
  have f3 : ∀ o, (w.alloc o).frozen? ⟨g, 3, none⟩ = false := fun o => (h.blk.alloc o).frozen 3
  have f4 : ∀ o, (w.alloc o).frozen? ⟨g, 4, none⟩ = false := fun o => (h.blk.alloc o).frozen 4
  rcases hw with hw | hw
  · rw [hw] at c3
    clear h hw
    unfold aggF
    go_enter Try.func13, Try.ntmps13
    go_wp2_with fail
    go_ret
    exact ⟨rfl, Lib.hid ⟨H.out.alloc _, (Keep.refl _ _).alloc _⟩⟩
  · rw [hw] at c3
    clear h hw
    unfold aggF
    go_enter Try.func13, Try.ntmps13
    go_wp2_with fail
    go_ret
    exact ⟨rfl, Lib.hid ⟨H.out.alloc _, (Keep.refl _ _).alloc _⟩⟩
set_option maxRecDepth 100000 in
set_option maxHeartbeats 2000000 in
theorem DFeed_abort {w : World} {g : Nat} {d : Doc} (h : IsDoc w g d) (hw : d.wait = 1 ∨ d.wait = 2) (F : Nat → Int) (hF : ∀ k, 0 ≤ F k ∧ F k ≤ 255) (h4 : F 0 / 32 = 4) :
    Calls Try.prog 13 #[.pointer (some ⟨g, 0, none⟩), aggF F] w fun e w' => e = .returned (.slice none 0 0) ∧ Hid (IsDoc w' g { d with wait := 3, code := numF F } ∧ Keep (Own.One g) w w') := by
  have H := Lib.hid h
  have hgl := h.blk.lt
  have c1 : ∀ o, (w.alloc o).cell? ⟨g, 1, none⟩ = some (.int .i64 d.at') := fun o => (h.blk.alloc o).cell 1
  have c2 : ∀ o, (w.alloc o).cell? ⟨g, 2, none⟩ = some (.int .i64 d.many) := fun o => (h.blk.alloc o).cell 2
  have c3 : ∀ o, (w.alloc o).cell? ⟨g, 3, none⟩ = some (.int .i64 d.wait) := fun o => (h.blk.alloc o).cell 3
  have c4 : ∀ o, (w.alloc o).cell? ⟨g, 4, none⟩ = some (.int .u32 d.code) := fun o => (h.blk.alloc o).cell 4
  have f3 : ∀ o, (w.alloc o).frozen? ⟨g, 3, none⟩ = false := fun o => (h.blk.alloc o).frozen 3
  have f4 : ∀ o, (w.alloc o).frozen? ⟨g, 4, none⟩ = false := fun o => (h.blk.alloc o).frozen 4
  have HB := Lib.hid hF
  have ht : (F 0).tdiv 32 = F 0 / 32 := Int.tdiv_eq_ediv_of_nonneg (hF 0).1
  rcases hw with hw | hw
  · rw [hw] at c3
    clear h hw hF
    unfold aggF
    go_enter Try.func13, Try.ntmps13
    go_wp2_with fail
    refine (number_is _ F HB.out).mono ?_
    rintro e w1 ⟨rfl, hk⟩
    have HS1 := Lib.hid ((H.out.alloc _).keep hk.out id (fun _ _ _ => id))
    have HK1 : Hid (Keep (Own.One g) w w1) := Lib.hid (((Keep.refl (Own.One g) w).alloc _).trans hk.out (fun _ h => h.elim))
    have k3 := HS1.out.blk.cell 3
    have k4 := HS1.out.blk.cell 4
    simp only [Doc.cells] at k3 k4
    have q3 := HS1.out.blk.frozen 3
    have q4 := HS1.out.blk.frozen 4
    clear hk c1 c2 c3 c4 f3 f4
    go_wp2_with fail
    go_ret
    exact ⟨rfl, Lib.hid ⟨(HS1.out.put 3 (.int .i64 3) { d with wait := 3 } (by simp [Doc.cells]) rfl rfl rfl H.out.atb).put 4 _ _ (by simp [Doc.cells]) rfl rfl rfl H.out.atb, (HK1.out.set1 3 _).set1 4 _⟩⟩
  · rw [hw] at c3
    clear h hw hF
    unfold aggF
    go_enter Try.func13, Try.ntmps13
    go_wp2_with fail
    refine (number_is _ F HB.out).mono ?_
    rintro e w1 ⟨rfl, hk⟩
    have HS1 := Lib.hid ((H.out.alloc _).keep hk.out id (fun _ _ _ => id))
    have HK1 : Hid (Keep (Own.One g) w w1) := Lib.hid (((Keep.refl (Own.One g) w).alloc _).trans hk.out (fun _ h => h.elim))
    have k3 := HS1.out.blk.cell 3
    have k4 := HS1.out.blk.cell 4
    simp only [Doc.cells] at k3 k4
    have q3 := HS1.out.blk.frozen 3
    have q4 := HS1.out.blk.frozen 4
    clear hk c1 c2 c3 c4 f3 f4
    go_wp2_with fail
    go_ret
    exact ⟨rfl, Lib.hid ⟨(HS1.out.put 3 (.int .i64 3) { d with wait := 3 } (by simp [Doc.cells]) rfl rfl rfl H.out.atb).put 4 _ _ (by simp [Doc.cells]) rfl rfl rfl H.out.atb, (HK1.out.set1 3 _).set1 4 _⟩⟩
set_option maxRecDepth 100000 in
set_option maxHeartbeats 2000000 in
theorem DFeed_taken {w : World} {g : Nat} {d : Doc} (h : IsDoc w g d) (hw : d.wait = 2) (F : Nat → Int) (h0 : F 0 = 161) :
    Calls Try.prog 13 #[.pointer (some ⟨g, 0, none⟩), aggF F] w fun e w' => e = .returned (.slice none 0 0) ∧ Hid (IsDoc w' g { d with wait := 3 } ∧ Keep (Own.One g) w w') := by
  have H := Lib.hid h
  have hgl := h.blk.lt
  have c1 : ∀ o, (w.alloc o).cell? ⟨g, 1, none⟩ = some (.int .i64 d.at') := fun o => (h.blk.alloc o).cell 1
  have c2 : ∀ o, (w.alloc o).cell? ⟨g, 2, none⟩ = some (.int .i64 d.many) := fun o => (h.blk.alloc o).cell 2
  have c3 : ∀ o, (w.alloc o).cell? ⟨g, 3, none⟩ = some (.int .i64 d.wait) := fun o => (h.blk.alloc o).cell 3
  have c4 : ∀ o, (w.alloc o).cell? ⟨g, 4, none⟩ = some (.int .u32 d.code) := fun o => (h.blk.alloc o).cell 4
  have f3 : ∀ o, (w.alloc o).frozen? ⟨g, 3, none⟩ = false := fun o => (h.blk.alloc o).frozen 3
  have f4 : ∀ o, (w.alloc o).frozen? ⟨g, 4, none⟩ = false := fun o => (h.blk.alloc o).frozen 4
  rw [hw] at c3
  clear h hw
  unfold aggF
  rw [h0]
  go_enter Try.func13, Try.ntmps13
  go_wp2_with fail
  go_ret
  exact ⟨rfl, Lib.hid ⟨(H.out.put 3 (.int .i64 3) { d with wait := 3 } (by simp [Doc.cells]) rfl rfl rfl H.out.atb).alloc _, ((Keep.refl (Own.One g) w).set1 3 _).alloc _⟩⟩
set_option maxRecDepth 100000 in
set_option maxHeartbeats 2000000 in
theorem DFeed_no {w : World} {g : Nat} {d : Doc} (h : IsDoc w g d) (F : Nat → Int) (hF : ∀ k, 0 ≤ F k ∧ F k ≤ 255) (h4 : ¬ F 0 / 32 = 4) (hn : (d.wait = 2 ∧ ¬ F 0 = 161) ∨ (d.wait = 1 ∧ ¬ F 0 = 162)) :
    Calls Try.prog 13 #[.pointer (some ⟨g, 0, none⟩), aggF F] w (DGivesPost g d 84148225 w) := by
  have H := Lib.hid h
  have hgl := h.blk.lt
  have c1 : ∀ o, (w.alloc o).cell? ⟨g, 1, none⟩ = some (.int .i64 d.at') := fun o => (h.blk.alloc o).cell 1
  have c2 : ∀ o, (w.alloc o).cell? ⟨g, 2, none⟩ = some (.int .i64 d.many) := fun o => (h.blk.alloc o).cell 2
  have c3 : ∀ o, (w.alloc o).cell? ⟨g, 3, none⟩ = some (.int .i64 d.wait) := fun o => (h.blk.alloc o).cell 3
  have c4 : ∀ o, (w.alloc o).cell? ⟨g, 4, none⟩ = some (.int .u32 d.code) := fun o => (h.blk.alloc o).cell 4
  have f3 : ∀ o, (w.alloc o).frozen? ⟨g, 3, none⟩ = false := fun o => (h.blk.alloc o).frozen 3
  have f4 : ∀ o, (w.alloc o).frozen? ⟨g, 4, none⟩ = false := fun o => (h.blk.alloc o).frozen 4
  have ht : (F 0).tdiv 32 = F 0 / 32 := Int.tdiv_eq_ediv_of_nonneg (hF 0).1
  have hm : F 0 / 32 % 256 = F 0 / 32 := by
    have := hF 0
    omega
  rcases hn with ⟨hw, h0⟩ | ⟨hw, h0⟩
  · rw [hw] at c3
    clear h hw hF
    unfold aggF
    go_enter Try.func13, Try.ntmps13
    go_wp2_with fail
    refine (dgives_ok ((H.out.alloc _)) 84148225 (by decide)).mono ?_
    rintro e w1 hp
    obtain ⟨A, q, rfl, hp3⟩ := dgives_from ((Keep.refl (Own.One g) w).alloc _) hp
    clear hp
    have HP := hp3
    clear hp3
    go_wp2_with fail
    go_ret
    exact ⟨A, q, rfl, HP⟩
  · rw [hw] at c3
    clear h hw hF
    unfold aggF
    go_enter Try.func13, Try.ntmps13
    go_wp2_with fail
    refine (dgives_ok ((H.out.alloc _)) 84148225 (by decide)).mono ?_
    rintro e w1 hp
    obtain ⟨A, q, rfl, hp3⟩ := dgives_from ((Keep.refl (Own.One g) w).alloc _) hp
    clear hp
    have HP := hp3
    clear hp3
    go_wp2_with fail
    go_ret
    exact ⟨A, q, rfl, HP⟩
set_option maxRecDepth 100000 in
set_option maxHeartbeats 2000000 in
theorem DFeed_seq {w : World} {g : Nat} {d : Doc} (h : IsDoc w g d) (hw : d.wait = 1) (F : Nat → Int) (hF : ∀ k, 0 ≤ F k ∧ F k ≤ 255) (h0 : F 0 = 162) (h1 : (d.many : Int) < F 1) :
    Calls Try.prog 13 #[.pointer (some ⟨g, 0, none⟩), aggF F] w (DGivesPost g d 84148227 w) := by
  have H := Lib.hid h
  have hgl := h.blk.lt
  have c1 : ∀ o, (w.alloc o).cell? ⟨g, 1, none⟩ = some (.int .i64 d.at') := fun o => (h.blk.alloc o).cell 1
  have c2 : ∀ o, (w.alloc o).cell? ⟨g, 2, none⟩ = some (.int .i64 d.many) := fun o => (h.blk.alloc o).cell 2
  have c3 : ∀ o, (w.alloc o).cell? ⟨g, 3, none⟩ = some (.int .i64 d.wait) := fun o => (h.blk.alloc o).cell 3
  have c4 : ∀ o, (w.alloc o).cell? ⟨g, 4, none⟩ = some (.int .u32 d.code) := fun o => (h.blk.alloc o).cell 4
  have f3 : ∀ o, (w.alloc o).frozen? ⟨g, 3, none⟩ = false := fun o => (h.blk.alloc o).frozen 3
  have f4 : ∀ o, (w.alloc o).frozen? ⟨g, 4, none⟩ = false := fun o => (h.blk.alloc o).frozen 4
  have g1 := (hF 1).1
  have g2 := (hF 1).2
  have hw1 : IntKind.i64.wrap (F 1) = F 1 := IntWalk.i64_in _ (by omega)
  rw [hw] at c3
  clear h hw hF
  unfold aggF
  rw [h0]
  go_enter Try.func13, Try.ntmps13
  go_wp2_with fail
  go_quiet (fail)
  go_wp2_with fail
  refine (dgives_ok ((H.out.alloc _).keep ((Keep.refl Own.Zero _).drewN _) id (fun _ _ _ => id)) 84148227 (by decide)).mono ?_
  rintro e w1 hp
  obtain ⟨A, q, rfl, hp3⟩ := dgives_from (((Keep.refl (Own.One g) w).alloc _).drewN _) hp
  clear hp
  have HP := hp3
  clear hp3
  go_wp2_with fail
  go_ret
  exact ⟨A, q, rfl, HP⟩
set_option maxRecDepth 100000 in
set_option maxHeartbeats 2000000 in
theorem DFeed_blk {w : World} {g : Nat} {d : Doc} (h : IsDoc w g d) (hw : d.wait = 1) (F : Nat → Int) (hF : ∀ k, 0 ≤ F k ∧ F k ≤ 255) (h0 : F 0 = 162) (h1 : ¬ (d.many : Int) < F 1) (h2 : F 2 < 1 ∨ 127 < F 2) :
    Calls Try.prog 13 #[.pointer (some ⟨g, 0, none⟩), aggF F] w (DGivesPost g d 84148226 w) := by
  have H := Lib.hid h
  have hgl := h.blk.lt
  have c1 : ∀ o, (w.alloc o).cell? ⟨g, 1, none⟩ = some (.int .i64 d.at') := fun o => (h.blk.alloc o).cell 1
  have c2 : ∀ o, (w.alloc o).cell? ⟨g, 2, none⟩ = some (.int .i64 d.many) := fun o => (h.blk.alloc o).cell 2
  have c3 : ∀ o, (w.alloc o).cell? ⟨g, 3, none⟩ = some (.int .i64 d.wait) := fun o => (h.blk.alloc o).cell 3
  have c4 : ∀ o, (w.alloc o).cell? ⟨g, 4, none⟩ = some (.int .u32 d.code) := fun o => (h.blk.alloc o).cell 4
  have f3 : ∀ o, (w.alloc o).frozen? ⟨g, 3, none⟩ = false := fun o => (h.blk.alloc o).frozen 3
  have f4 : ∀ o, (w.alloc o).frozen? ⟨g, 4, none⟩ = false := fun o => (h.blk.alloc o).frozen 4
  have g1 := (hF 1).1
  have g2 := (hF 1).2
  have hw1 : IntKind.i64.wrap (F 1) = F 1 := IntWalk.i64_in _ (by omega)
  have g3 := (hF 2).1
  rw [hw] at c3
  by_cases h3 : F 2 = 0
  · clear h hw hF h2
    unfold aggF
    rw [h0, h3]
    go_enter Try.func13, Try.ntmps13
    go_wp2_with fail
    go_quiet (fail)
    go_wp2_with fail
    refine (dgives_ok ((H.out.alloc _).keep ((Keep.refl Own.Zero _).drewN _) id (fun _ _ _ => id)) 84148226 (by decide)).mono ?_
    rintro e w1 hp
    obtain ⟨A, q, rfl, hp3⟩ := dgives_from (((Keep.refl (Own.One g) w).alloc _).drewN _) hp
    clear hp
    have HP := hp3
    clear hp3
    go_wp2_with fail
    go_ret
    exact ⟨A, q, rfl, HP⟩
  · have h5 : 127 < F 2 := by omega
    clear h hw hF h2
    unfold aggF
    rw [h0]
    go_enter Try.func13, Try.ntmps13
    go_wp2_with fail
    go_quiet (fail)
    go_wp2_with fail
    refine (dgives_ok ((H.out.alloc _).keep ((Keep.refl Own.Zero _).drewN _) id (fun _ _ _ => id)) 84148226 (by decide)).mono ?_
    rintro e w1 hp
    obtain ⟨A, q, rfl, hp3⟩ := dgives_from (((Keep.refl (Own.One g) w).alloc _).drewN _) hp
    clear hp
    have HP := hp3
    clear hp3
    go_wp2_with fail
    go_ret
    exact ⟨A, q, rfl, HP⟩
end Go.Proofs.Ytdmomhbimhggiaa.Block
