/- The sender's Feed, whatever it is answered. -/
import Derived.Test.YtdmomhbimhggiaaBlockF
import Derived.Test.YtdmomhbimhggiaaJoins
namespace Go.Proofs.Ytdmomhbimhggiaa.Block
open Go.RowKit Go.Proofs.Ytdmomhbimhggiaa.Own Go.Proofs.Ytdmomhbimhggiaa.Crc
theorem Feed_deaf {w : World} {g : Nat} {s : Snd} (h : IsSnd w g s) (hb : s.begun = false ∨ s.done = true) (F : Nat → Int) :
    Calls Try.prog 9 #[.pointer (some ⟨g, 0, none⟩), aggF F] w fun e w' => e = .returned (.slice none 0 0) ∧ Hid (IsSnd w' g s ∧ Keep (Own.One g) w w') := by
  have H := Lib.hid h
  have hgl := h.blk.lt
  have c3 : ∀ o, (w.alloc o).cell? ⟨g, 3, none⟩ = some (.bool s.begun) := fun o => (h.blk.alloc o).cell 3
  have c4 : ∀ o, (w.alloc o).cell? ⟨g, 4, none⟩ = some (.bool s.ends) := fun o => (h.blk.alloc o).cell 4
  have c5 : ∀ o, (w.alloc o).cell? ⟨g, 5, none⟩ = some (.bool s.done) := fun o => (h.blk.alloc o).cell 5
  have c6 : ∀ o, (w.alloc o).cell? ⟨g, 6, none⟩ = some (.int .u32 s.code) := fun o => (h.blk.alloc o).cell 6
  have f5 : ∀ o, (w.alloc o).frozen? ⟨g, 5, none⟩ = false := fun o => (h.blk.alloc o).frozen 5
  have f6 : ∀ o, (w.alloc o).frozen? ⟨g, 6, none⟩ = false := fun o => (h.blk.alloc o).frozen 6
  have c3' : ∀ o, (w.alloc o).cell? ⟨g, 3, none⟩ = some (.bool s.begun) := c3
  rcases hb1 : s.begun with _ | _
  · rw [hb1] at c3
    clear h hb c3' hb1
    unfold aggF
    go_enter Try.func9, Try.ntmps9
    go_wp2_with fail
    go_ret
    exact ⟨rfl, Lib.hid ⟨H.out.alloc _, (Keep.refl _ _).alloc _⟩⟩
  · have hd : s.done = true := by
      rcases hb with hb | hb
      · rw [hb1] at hb; cases hb
      · exact hb
    rw [hb1] at c3
    rw [hd] at c5
    clear h hb c3' hb1 hd
    unfold aggF
    go_enter Try.func9, Try.ntmps9
    go_wp2_with fail
    go_ret
    exact ⟨rfl, Lib.hid ⟨H.out.alloc _, (Keep.refl _ _).alloc _⟩⟩
/-- An abort's code. -/
def numF (F : Nat → Int) : Int := F 4 + 256 * F 5 + 65536 * F 6 + 16777216 * F 7
theorem or_u32 (i : Nat) (x y : Int) (c : Int) (hc : c = ((2 ^ i : Nat) : Int)) (x0 : 0 ≤ x) (hx : x < c) (y0 : 0 ≤ y) (hy : y ≤ 255) (hi : i ≤ 24) : bits .or .u32 x (y * c) = x + y * c := by
  subst hc
  obtain ⟨x, rfl⟩ : ∃ n : Nat, x = n := ⟨x.toNat, by omega⟩
  obtain ⟨y, rfl⟩ : ∃ n : Nat, y = n := ⟨y.toNat, by omega⟩
  have hp : 2 ^ i ≤ 2 ^ 24 := Nat.pow_le_pow_right (by decide) hi
  have hxy : y * 2 ^ i ≤ 255 * 2 ^ 24 := Nat.mul_le_mul (by omega) hp
  have hx' : x < 2 ^ i := by omega
  rw [← Int.natCast_mul, u32_or_nat x (y * 2 ^ i) (by omega) (by omega), Nat.or_comm, nat_join i (y * 2 ^ i) x (by simp) hx']
  rw [Int.natCast_add]
  omega
set_option maxRecDepth 100000 in
set_option maxHeartbeats 1000000 in
theorem code_is (w : World) (F : Nat → Int) (hF : ∀ k, 0 ≤ F k ∧ F k ≤ 255) : Calls Try.prog 21 #[aggF F] w fun e w' => e = .returned (.int .u32 (numF F)) ∧ Hid (Keep Own.Zero w w') := by
  have h4 := hF 4
  have h5 := hF 5
  have h6 := hF 6
  have h7 := hF 7
  unfold aggF numF
  have o1 := or_u32 8 (F 4) (F 5) 256 rfl h4.1 (by omega) h5.1 h5.2 (by decide)
  have o2 := or_u32 16 (F 4 + F 5 * 256) (F 6) 65536 rfl (by omega) (by omega) h6.1 h6.2 (by decide)
  have o3 := or_u32 24 (F 4 + F 5 * 256 + F 6 * 65536) (F 7) 16777216 rfl (by omega) (by omega) h7.1 h7.2 (by decide)
  have HO := Lib.hid (And.intro o1 (And.intro o2 o3))
  clear o1 o2 o3
  go_enter Try.func21, Try.ntmps21
  go_wp2_with fail
  go_ret
  refine ⟨?_, Lib.hid ((Keep.refl _ _).alloc _)⟩
  have e : F 4 + 256 * F 5 + 65536 * F 6 + 16777216 * F 7 = bits .or .u32 (bits .or .u32 (bits .or .u32 (F 4) (F 5 * 256)) (F 6 * 65536)) (F 7 * 16777216) := by
    rw [HO.out.1, HO.out.2.1, HO.out.2.2]
    omega
  rw [e]
  rfl
set_option maxRecDepth 100000 in
set_option maxHeartbeats 1000000 in
/-- It gives up. -/
theorem sgives_ok {w : World} {g : Nat} {s : Snd} (h : IsSnd w g s) (c : Nat) (hc : c < 4294967296) :
    Calls Try.prog 22 #[.pointer (some ⟨g, 0, none⟩), .int .u32 c] w fun e w' => ∃ A d, e = .returned (.slice A 1 d) ∧ Hid (IsSnd w' g { s with done := true, code := c } ∧ FrAt w' w.heap.size A 1 d [abF c] ∧ Keep (Own.One g) w w') := by
  have H := Lib.hid h
  have hgl := h.blk.lt
  have k5 := h.blk.cell 5
  have k6 := h.blk.cell 6
  simp only [Snd.cells] at k5 k6
  have f5 := h.blk.frozen 5
  have f6 := h.blk.frozen 6
  clear h
  go_enter Try.func22, Try.ntmps22
  go_wp2_with fail
  refine (Abort_is _ c hc).mono ?_
  rintro e w1 ⟨rfl, hk⟩
  have HKa : Hid (Keep (Own.One g) w ((w.setCell ⟨g, 5, none⟩ (.bool true)).setCell ⟨g, 6, none⟩ (.int .u32 c))) := Lib.hid (((Keep.refl (Own.One g) w).set1 5 _).set1 6 _)
  have HSa : Hid (IsSnd ((w.setCell ⟨g, 5, none⟩ (.bool true)).setCell ⟨g, 6, none⟩ (.int .u32 c)) g { s with done := true, code := c }) := Lib.hid ((H.out.put 5 (.bool true) { s with done := true } (by simp [Snd.cells]) rfl rfl rfl H.out.atb).put 6 _ _ (by simp [Snd.cells]) rfl rfl rfl H.out.atb)
  have HS1 := Lib.hid (HSa.out.keep hk.out id (fun _ _ => id))
  have HK1 : Hid (Keep (Own.One g) w w1) := Lib.hid (HKa.out.trans hk.out (fun _ h => h.elim))
  clear hk
  rw [show aggF (abF c) = .agg #[.int .u8 (abF c 0), .int .u8 (abF c 1), .int .u8 (abF c 2), .int .u8 (abF c 3), .int .u8 (abF c 4), .int .u8 (abF c 5), .int .u8 (abF c 6), .int .u8 (abF c 7)] from rfl]
  go_wp2_with fail
  go_ret
  exact ⟨_, _, rfl, Lib.hid ⟨HS1.out.alloc _, fr_one (Blk.new w1 _ _) HK1.out.size, HK1.out.alloc _⟩⟩
set_option maxRecDepth 100000 in
set_option maxHeartbeats 1000000 in
/-- An abort comes. -/
theorem Feed_abort {w : World} {g : Nat} {s : Snd} (h : IsSnd w g s) (hb : s.begun = true) (hd : s.done = false) (F : Nat → Int) (hF : ∀ k, 0 ≤ F k ∧ F k ≤ 255) (h4 : F 0 / 32 = 4) :
    Calls Try.prog 9 #[.pointer (some ⟨g, 0, none⟩), aggF F] w fun e w' => e = .returned (.slice none 0 0) ∧ Hid (IsSnd w' g { s with done := true, code := numF F } ∧ Keep (Own.One g) w w') := by
  have H := Lib.hid h
  have HB := Lib.hid hF
  have hgl := h.blk.lt
  have c2 : ∀ o, (w.alloc o).cell? ⟨g, 2, none⟩ = some (.int .i64 s.many) := fun o => (h.blk.alloc o).cell 2
  have c3 : ∀ o, (w.alloc o).cell? ⟨g, 3, none⟩ = some (.bool true) := fun o => by rw [← hb]; exact (h.blk.alloc o).cell 3
  have c5 : ∀ o, (w.alloc o).cell? ⟨g, 5, none⟩ = some (.bool false) := fun o => by rw [← hd]; exact (h.blk.alloc o).cell 5
  have c6 : ∀ o, (w.alloc o).cell? ⟨g, 6, none⟩ = some (.int .u32 s.code) := fun o => (h.blk.alloc o).cell 6
  have f5 : ∀ o, (w.alloc o).frozen? ⟨g, 5, none⟩ = false := fun o => (h.blk.alloc o).frozen 5
  have f6 : ∀ o, (w.alloc o).frozen? ⟨g, 6, none⟩ = false := fun o => (h.blk.alloc o).frozen 6
  clear h hb hd hF
  unfold aggF
  go_enter Try.func9, Try.ntmps9
  go_wp2_with fail
  refine (code_is _ F HB.out).mono ?_
  rintro e w1 ⟨rfl, hk⟩
  have HS1 := Lib.hid ((H.out.alloc _).keep hk.out id (fun _ _ => id))
  have HK1 : Hid (Keep (Own.One g) w w1) := Lib.hid (((Keep.refl (Own.One g) w).alloc _).trans hk.out (fun _ h => h.elim))
  have k5 := HS1.out.blk.cell 5
  have k6 := HS1.out.blk.cell 6
  simp only [Snd.cells] at k5 k6
  have q5 := HS1.out.blk.frozen 5
  have q6 := HS1.out.blk.frozen 6
  clear hk c2 c3 c5 c6 f5 f6
  go_wp2_with fail
  go_ret
  exact ⟨rfl, Lib.hid ⟨(HS1.out.put 5 (.bool true) { s with done := true } (by simp [Snd.cells]) rfl rfl rfl H.out.atb).put 6 _ _ (by simp [Snd.cells]) rfl rfl rfl H.out.atb, (HK1.out.set1 5 _).set1 6 _⟩⟩
/-- What giving up leaves. -/
def GivesPost (g : Nat) (s : Snd) (c : Nat) (w : World) (e : Ending) (w' : World) : Prop := ∃ A d, e = .returned (.slice A 1 d) ∧ Hid (IsSnd w' g { s with done := true, code := c } ∧ FrAt w' w.heap.size A 1 d [abF c] ∧ Keep (Own.One g) w w')
theorem gives_from {w0 w w' : World} {g c : Nat} {s : Snd} {e : Ending} (k : Keep (Own.One g) w0 w) (h : ∃ A d, e = .returned (.slice A 1 d) ∧ Hid (IsSnd w' g { s with done := true, code := c } ∧ FrAt w' w.heap.size A 1 d [abF c] ∧ Keep (Own.One g) w w')) : GivesPost g s c w0 e w' := by
  obtain ⟨A, d, rfl, hp⟩ := h
  exact ⟨A, d, rfl, Lib.hid ⟨hp.out.1, own_mono hp.out.2.1 k.size, k.trans hp.out.2.2 (fun k hk => .inl hk)⟩⟩
set_option maxRecDepth 100000 in
set_option maxHeartbeats 1000000 in
/-- No command that it knows. -/
theorem Feed_no {w : World} {g : Nat} {s : Snd} (h : IsSnd w g s) (hb : s.begun = true) (hd : s.done = false) (F : Nat → Int) (hF : ∀ k, 0 ≤ F k ∧ F k ≤ 255) (h4 : ¬ F 0 / 32 = 4) (hn : (s.ends = true ∧ ¬ F 0 = 161) ∨ (s.ends = false ∧ ¬ F 0 = 162)) :
    Calls Try.prog 9 #[.pointer (some ⟨g, 0, none⟩), aggF F] w (GivesPost g s 84148225 w) := by
  have H := Lib.hid h
  have HB := Lib.hid hF
  have hgl := h.blk.lt
  have c2 : ∀ o, (w.alloc o).cell? ⟨g, 2, none⟩ = some (.int .i64 s.many) := fun o => (h.blk.alloc o).cell 2
  have c3 : ∀ o, (w.alloc o).cell? ⟨g, 3, none⟩ = some (.bool true) := fun o => by rw [← hb]; exact (h.blk.alloc o).cell 3
  have c5 : ∀ o, (w.alloc o).cell? ⟨g, 5, none⟩ = some (.bool false) := fun o => by rw [← hd]; exact (h.blk.alloc o).cell 5
  have c6 : ∀ o, (w.alloc o).cell? ⟨g, 6, none⟩ = some (.int .u32 s.code) := fun o => (h.blk.alloc o).cell 6
  have f5 : ∀ o, (w.alloc o).frozen? ⟨g, 5, none⟩ = false := fun o => (h.blk.alloc o).frozen 5
  have f6 : ∀ o, (w.alloc o).frozen? ⟨g, 6, none⟩ = false := fun o => (h.blk.alloc o).frozen 6
  rcases hn with ⟨he, h0⟩ | ⟨he, h0⟩
  · have c4 : ∀ o, (w.alloc o).cell? ⟨g, 4, none⟩ = some (.bool true) := fun o => by rw [← he]; exact (h.blk.alloc o).cell 4
    clear h hb hd hF he
    unfold aggF
    go_enter Try.func9, Try.ntmps9
    go_wp2_with fail
    refine (sgives_ok (H.out.alloc _) 84148225 (by decide)).mono ?_
    rintro e w1 hp
    have hp2 := gives_from ((Keep.refl (Own.One g) w).alloc _) hp
    obtain ⟨A, d, rfl, hp3⟩ := hp2
    clear hp
    have HP := hp3
    clear hp3
    go_wp2_with fail
    go_ret
    exact ⟨A, d, rfl, HP⟩
  · have c4 : ∀ o, (w.alloc o).cell? ⟨g, 4, none⟩ = some (.bool false) := fun o => by rw [← he]; exact (h.blk.alloc o).cell 4
    clear h hb hd hF he
    unfold aggF
    go_enter Try.func9, Try.ntmps9
    go_wp2_with fail
    refine (sgives_ok (H.out.alloc _) 84148225 (by decide)).mono ?_
    rintro e w1 hp
    have hp2 := gives_from ((Keep.refl (Own.One g) w).alloc _) hp
    obtain ⟨A, d, rfl, hp3⟩ := hp2
    clear hp
    have HP := hp3
    clear hp3
    go_wp2_with fail
    go_ret
    exact ⟨A, d, rfl, HP⟩
set_option maxRecDepth 100000 in
set_option maxHeartbeats 1000000 in
/-- More than were sent. -/
theorem Feed_seq {w : World} {g : Nat} {s : Snd} (h : IsSnd w g s) (hb : s.begun = true) (hd : s.done = false) (F : Nat → Int) (hF : ∀ k, 0 ≤ F k ∧ F k ≤ 255) (he : s.ends = false) (h0 : F 0 = 162) (h1 : (s.many : Int) < F 1) :
    Calls Try.prog 9 #[.pointer (some ⟨g, 0, none⟩), aggF F] w (GivesPost g s 84148227 w) := by
  have H := Lib.hid h
  have HB := Lib.hid hF
  have hgl := h.blk.lt
  have c2 : ∀ o, (w.alloc o).cell? ⟨g, 2, none⟩ = some (.int .i64 s.many) := fun o => (h.blk.alloc o).cell 2
  have c3 : ∀ o, (w.alloc o).cell? ⟨g, 3, none⟩ = some (.bool true) := fun o => by rw [← hb]; exact (h.blk.alloc o).cell 3
  have c5 : ∀ o, (w.alloc o).cell? ⟨g, 5, none⟩ = some (.bool false) := fun o => by rw [← hd]; exact (h.blk.alloc o).cell 5
  have c6 : ∀ o, (w.alloc o).cell? ⟨g, 6, none⟩ = some (.int .u32 s.code) := fun o => (h.blk.alloc o).cell 6
  have f5 : ∀ o, (w.alloc o).frozen? ⟨g, 5, none⟩ = false := fun o => (h.blk.alloc o).frozen 5
  have f6 : ∀ o, (w.alloc o).frozen? ⟨g, 6, none⟩ = false := fun o => (h.blk.alloc o).frozen 6
  have c4 : ∀ o, (w.alloc o).cell? ⟨g, 4, none⟩ = some (.bool false) := fun o => by rw [← he]; exact (h.blk.alloc o).cell 4
  have h4 : ¬ F 0 / 32 = 4 := by rw [h0]; decide
  have g1 := (hF 1).1
  have g2 := (hF 1).2
  have hw1 : IntKind.i64.wrap (F 1) = F 1 := IntWalk.i64_in _ (by omega)
  clear h hb hd hF he
  unfold aggF
  go_enter Try.func9, Try.ntmps9
  go_wp2_with fail
  go_quiet (fail)
  go_wp2_with fail
  refine (sgives_ok ((H.out.alloc _).keep ((Keep.refl Own.Zero _).drewN _) id (fun _ _ => id)) 84148227 (by decide)).mono ?_
  rintro e w1 hp
  have hp2 := gives_from (((Keep.refl (Own.One g) w).alloc _).drewN _) hp
  obtain ⟨A, d, rfl, hp3⟩ := hp2
  clear hp
  have HP := hp3
  clear hp3
  go_wp2_with fail
  go_ret
  exact ⟨A, d, rfl, HP⟩
set_option maxRecDepth 100000 in
set_option maxHeartbeats 1000000 in
/-- A size that none may have. -/
theorem Feed_blk {w : World} {g : Nat} {s : Snd} (h : IsSnd w g s) (hb : s.begun = true) (hd : s.done = false) (F : Nat → Int) (hF : ∀ k, 0 ≤ F k ∧ F k ≤ 255) (he : s.ends = false) (h0 : F 0 = 162) (h1 : ¬ (s.many : Int) < F 1) (h2 : F 2 < 1 ∨ 127 < F 2) :
    Calls Try.prog 9 #[.pointer (some ⟨g, 0, none⟩), aggF F] w (GivesPost g s 84148226 w) := by
  have H := Lib.hid h
  have HB := Lib.hid hF
  have hgl := h.blk.lt
  have c2 : ∀ o, (w.alloc o).cell? ⟨g, 2, none⟩ = some (.int .i64 s.many) := fun o => (h.blk.alloc o).cell 2
  have c3 : ∀ o, (w.alloc o).cell? ⟨g, 3, none⟩ = some (.bool true) := fun o => by rw [← hb]; exact (h.blk.alloc o).cell 3
  have c5 : ∀ o, (w.alloc o).cell? ⟨g, 5, none⟩ = some (.bool false) := fun o => by rw [← hd]; exact (h.blk.alloc o).cell 5
  have c6 : ∀ o, (w.alloc o).cell? ⟨g, 6, none⟩ = some (.int .u32 s.code) := fun o => (h.blk.alloc o).cell 6
  have f5 : ∀ o, (w.alloc o).frozen? ⟨g, 5, none⟩ = false := fun o => (h.blk.alloc o).frozen 5
  have f6 : ∀ o, (w.alloc o).frozen? ⟨g, 6, none⟩ = false := fun o => (h.blk.alloc o).frozen 6
  have c4 : ∀ o, (w.alloc o).cell? ⟨g, 4, none⟩ = some (.bool false) := fun o => by rw [← he]; exact (h.blk.alloc o).cell 4
  have h4 : ¬ F 0 / 32 = 4 := by rw [h0]; decide
  have g1 := (hF 1).1
  have g2 := (hF 1).2
  have hw1 : IntKind.i64.wrap (F 1) = F 1 := IntWalk.i64_in _ (by omega)
  by_cases h3 : F 2 < 1
  · clear h hb hd hF he h2
    unfold aggF
    go_enter Try.func9, Try.ntmps9
    go_wp2_with fail
    go_quiet (fail)
    go_wp2_with fail
    refine (sgives_ok ((H.out.alloc _).keep ((Keep.refl Own.Zero _).drewN _) id (fun _ _ => id)) 84148226 (by decide)).mono ?_
    rintro e w1 hp
    have hp2 := gives_from (((Keep.refl (Own.One g) w).alloc _).drewN _) hp
    obtain ⟨A, d, rfl, hp3⟩ := hp2
    clear hp
    have HP := hp3
    clear hp3
    go_wp2_with fail
    go_ret
    exact ⟨A, d, rfl, HP⟩
  · have h5 : 127 < F 2 := by omega
    clear h hb hd hF he h2
    unfold aggF
    go_enter Try.func9, Try.ntmps9
    go_wp2_with fail
    go_quiet (fail)
    go_wp2_with fail
    refine (sgives_ok ((H.out.alloc _).keep ((Keep.refl Own.Zero _).drewN _) id (fun _ _ => id)) 84148226 (by decide)).mono ?_
    rintro e w1 hp
    have hp2 := gives_from (((Keep.refl (Own.One g) w).alloc _).drewN _) hp
    obtain ⟨A, d, rfl, hp3⟩ := hp2
    clear hp
    have HP := hp3
    clear hp3
    go_wp2_with fail
    go_ret
    exact ⟨A, d, rfl, HP⟩
end Go.Proofs.Ytdmomhbimhggiaa.Block
