/- What beat's watcher takes and tells. -/
import Derived.Test.YtcmfcnljdeddfaaTopE
namespace Go.Proofs.Ytcmfcnljdeddfaa.Beat
open Go.RowKit Go.Proofs.Ytcmfcnljdeddfaa.Own

theorem low_facts {w : World} {b : Nat} {t : Wt} (h : Blk w b t.cells 85) :
    (w.cell? ⟨b, 0, none⟩ = some (.int .i64 9) ∧ w.cell? ⟨b, 1, none⟩ = some (.int .u64 20) ∧ w.cell? ⟨b, 2, none⟩ = some (.int .i64 t.st) ∧ w.cell? ⟨b, 3, none⟩ = some (.bool t.there) ∧ w.cell? ⟨b, 4, none⟩ = some (.bool t.lost) ∧ w.cell? ⟨b, 5, none⟩ = some (.int .u64 t.since)) ∧
    w.frozen? ⟨b, 0, none⟩ = false ∧ w.frozen? ⟨b, 1, none⟩ = false ∧ w.frozen? ⟨b, 2, none⟩ = false ∧ w.frozen? ⟨b, 3, none⟩ = false ∧ w.frozen? ⟨b, 4, none⟩ = false ∧ w.frozen? ⟨b, 5, none⟩ = false :=
  ⟨⟨h.cell 0, h.cell 1, h.cell 2, h.cell 3, h.cell 4, h.cell 5⟩, h.frozen 0, h.frozen 1, h.frozen 2, h.frozen 3, h.frozen 4, h.frozen 5⟩

def TakePost (w : World) (g a b c : Nat) (t1 : Wt) (e : Ending) (w' : World) : Prop := (∃ A n m r, e = .returned (.tuple #[.slice A n m, .bool r])) ∧ IsWt w' g a b c t1 ∧ Keep (One b) w w'

theorem tells_then {w wx : World} {g a b c : Nat} {t : Wt} (h : IsWt w g a b c t) (t1 : Wt) (hl : Blk wx b t1.cells 85) (kp : Keep (One b) w wx) (k s : Int) :
    Calls Try.prog 22 #[.pointer (some ⟨b, 0, none⟩), .int .i64 k, .int .i64 s] wx fun e w' => (∃ A n c, e = .returned (.slice A n c)) ∧ IsWt w' g a b c t1 ∧ Keep (One b) w w' := by
  refine (tells_any hl k s).mono ?_
  rintro e w' ⟨he, hk⟩
  have k2 : Keep (One b) w w' := kp.trans hk (fun i hi => hi.elim)
  exact ⟨he, h.to k2 (hl.keep hk id), k2⟩

set_option maxHeartbeats 4000000 in
theorem Take_0 {w : World} {g a b c : Nat} {t : Wt} (h : IsWt w g a b c t) (q o m : Nat) (hq : w.cell? ⟨q, o, none⟩ = some (.int .u8 0)) (_ : q ≠ b) :
    Calls Try.prog 9 #[.pointer (some ⟨g, 0, none⟩), .int .i64 9, .slice (some ⟨q, o, none⟩) 1 m] w (TakePost w g a b c ⟨0, false, false, 0⟩) := by
  have H := Lib.hid h
  have HQ := Lib.hid hq
  have lq := World.block_lt_of_cell? w _ hq
  have lb := h.low.lt
  clear hq h
  go_enter Try.func9, Try.ntmps9
  go_wp2_with fail
  refine (of_1 H.out).mono ?_
  rintro e w1 ⟨rfl, hk⟩
  have HK := Lib.hid (hk.mono (S' := One b) (fun i hi => hi.elim))
  have H1 := Lib.hid (H.out.keep hk id id id)
  have hq := (hk.cell (p := ⟨q, o, none⟩) lq id).trans HQ.out
  have lq1 := World.block_lt_of_cell? w1 _ hq
  obtain ⟨⟨d0, d1, d2, d3, d4, d5⟩, f0, f1, f2, f3, f4, f5⟩ := low_facts H1.out.low
  have lb1 := H1.out.low.lt
  clear hk
  go_wp2_with fail
  refine (tells_then H1.out ⟨0, false, false, 0⟩ ?_ ?_ _ _).mono ?_
  · apply Blk.cast
    · repeat (first | (with_reducible first | apply Blk.set | apply Blk.alloc) | exact H1.out.low)
    · simp [Wt.cells]
  · repeat (with_reducible first | exact Keep.refl _ _ | apply Keep.set1 | apply Keep.alloc)
  rintro e w2 ⟨⟨A, n, m2, rfl⟩, h2, k2⟩
  have H2 := Lib.hid (And.intro h2 k2)
  clear h2 k2
  go_wp2_with fail
  go_ret2
  exact ⟨⟨_, _, _, _, rfl⟩, H2.out.1, HK.out.trans H2.out.2 (fun i hi => .inl hi)⟩

set_option maxHeartbeats 8000000 in
theorem Take_s {w : World} {g a b c : Nat} {st since : Int} {there : Bool} (h : IsWt w g a b c ⟨st, there, false, since⟩) (q o m : Nat) (s : Int) (hs : s = 4 ∨ s = 5 ∨ s = 127) (hq : w.cell? ⟨q, o, none⟩ = some (.int .u8 s)) (_ : q ≠ b) :
    Calls Try.prog 9 #[.pointer (some ⟨g, 0, none⟩), .int .i64 9, .slice (some ⟨q, o, none⟩) 1 m] w (TakePost w g a b c ⟨s, true, false, 0⟩) := by
  cases there
  · rcases hs with rfl | rfl | rfl
    all_goals
      have H := Lib.hid h
      have HQ := Lib.hid hq
      have lq := World.block_lt_of_cell? w _ hq
      have lb := h.low.lt
      clear hq h
      go_enter Try.func9, Try.ntmps9
      go_wp2_with fail
      refine (of_1 H.out).mono ?_
      rintro e w1 ⟨rfl, hk⟩
      have HK := Lib.hid (hk.mono (S' := One b) (fun i hi => hi.elim))
      have H1 := Lib.hid (H.out.keep hk id id id)
      have hq := (hk.cell (p := ⟨q, o, none⟩) lq id).trans HQ.out
      have lq1 := World.block_lt_of_cell? w1 _ hq
      obtain ⟨⟨d0, d1, d2, d3, d4, d5⟩, f0, f1, f2, f3, f4, f5⟩ := low_facts H1.out.low
      have lb1 := H1.out.low.lt
      clear hk
      go_wp2_with fail
    refine (tells_then H1.out ⟨4, true, false, 0⟩ ?_ ?_ _ _).mono ?_
    · apply Blk.cast
      · repeat (first | (with_reducible first | apply Blk.set | apply Blk.alloc) | exact H1.out.low)
      · simp [Wt.cells]
    · repeat (with_reducible first | exact Keep.refl _ _ | apply Keep.set1 | apply Keep.alloc)
    rintro e w2 ⟨⟨A, n, m2, rfl⟩, h2, k2⟩
    have H2 := Lib.hid (And.intro h2 k2)
    clear h2 k2
    go_wp2_with fail
    go_ret2
    exact ⟨⟨_, _, _, _, rfl⟩, H2.out.1, HK.out.trans H2.out.2 (fun i hi => .inl hi)⟩
    refine (tells_then H1.out ⟨5, true, false, 0⟩ ?_ ?_ _ _).mono ?_
    · apply Blk.cast
      · repeat (first | (with_reducible first | apply Blk.set | apply Blk.alloc) | exact H1.out.low)
      · simp [Wt.cells]
    · repeat (with_reducible first | exact Keep.refl _ _ | apply Keep.set1 | apply Keep.alloc)
    rintro e w2 ⟨⟨A, n, m2, rfl⟩, h2, k2⟩
    have H2 := Lib.hid (And.intro h2 k2)
    clear h2 k2
    go_wp2_with fail
    go_ret2
    exact ⟨⟨_, _, _, _, rfl⟩, H2.out.1, HK.out.trans H2.out.2 (fun i hi => .inl hi)⟩
    refine (tells_then H1.out ⟨127, true, false, 0⟩ ?_ ?_ _ _).mono ?_
    · apply Blk.cast
      · repeat (first | (with_reducible first | apply Blk.set | apply Blk.alloc) | exact H1.out.low)
      · simp [Wt.cells]
    · repeat (with_reducible first | exact Keep.refl _ _ | apply Keep.set1 | apply Keep.alloc)
    rintro e w2 ⟨⟨A, n, m2, rfl⟩, h2, k2⟩
    have H2 := Lib.hid (And.intro h2 k2)
    clear h2 k2
    go_wp2_with fail
    go_ret2
    exact ⟨⟨_, _, _, _, rfl⟩, H2.out.1, HK.out.trans H2.out.2 (fun i hi => .inl hi)⟩
  · by_cases he : st = s
    · subst he
      have hb : (st != st) = false := by simp
      rcases hs with rfl | rfl | rfl
      all_goals
        have H := Lib.hid h
        have HQ := Lib.hid hq
        have lq := World.block_lt_of_cell? w _ hq
        have lb := h.low.lt
        clear hq h
        go_enter Try.func9, Try.ntmps9
        go_wp2_with fail
        refine (of_1 H.out).mono ?_
        rintro e w1 ⟨rfl, hk⟩
        have HK := Lib.hid (hk.mono (S' := One b) (fun i hi => hi.elim))
        have H1 := Lib.hid (H.out.keep hk id id id)
        have hq := (hk.cell (p := ⟨q, o, none⟩) lq id).trans HQ.out
        have lq1 := World.block_lt_of_cell? w1 _ hq
        obtain ⟨⟨d0, d1, d2, d3, d4, d5⟩, f0, f1, f2, f3, f4, f5⟩ := low_facts H1.out.low
        have lb1 := H1.out.low.lt
        clear hk
        go_wp2_with fail
        go_ret2
        refine ⟨⟨_, _, _, _, rfl⟩, ?_⟩
        have k2 : ∀ wx, Keep (One b) w1 wx → Keep (One b) w wx := fun wx k => HK.out.trans k (fun i hi => .inl hi)
        refine (fun (k : Keep (One b) w1 _) => And.intro (H1.out.to k ?_) (k2 _ k)) ?_
        · apply Blk.cast
          · repeat (first | (with_reducible first | apply Blk.set | apply Blk.alloc) | exact H1.out.low)
          · simp [Wt.cells]
        · repeat (with_reducible first | exact Keep.refl _ _ | apply Keep.set1 | apply Keep.alloc)
    · rcases hs with rfl | rfl | rfl
      all_goals
        have hb : (st == _) = false := beq_false_of_ne he
        clear he
        have H := Lib.hid h
        have HQ := Lib.hid hq
        have lq := World.block_lt_of_cell? w _ hq
        have lb := h.low.lt
        clear hq h
        go_enter Try.func9, Try.ntmps9
        go_wp2_with fail
        refine (of_1 H.out).mono ?_
        rintro e w1 ⟨rfl, hk⟩
        have HK := Lib.hid (hk.mono (S' := One b) (fun i hi => hi.elim))
        have H1 := Lib.hid (H.out.keep hk id id id)
        have hq := (hk.cell (p := ⟨q, o, none⟩) lq id).trans HQ.out
        have lq1 := World.block_lt_of_cell? w1 _ hq
        obtain ⟨⟨d0, d1, d2, d3, d4, d5⟩, f0, f1, f2, f3, f4, f5⟩ := low_facts H1.out.low
        have lb1 := H1.out.low.lt
        clear hk
        go_wp2_with fail
      refine (tells_then H1.out ⟨4, true, false, 0⟩ ?_ ?_ _ _).mono ?_
      · apply Blk.cast
        · repeat (first | (with_reducible first | apply Blk.set | apply Blk.alloc) | exact H1.out.low)
        · simp [Wt.cells]
      · repeat (with_reducible first | exact Keep.refl _ _ | apply Keep.set1 | apply Keep.alloc)
      rintro e w2 ⟨⟨A, n, m2, rfl⟩, h2, k2⟩
      have H2 := Lib.hid (And.intro h2 k2)
      clear h2 k2
      go_wp2_with fail
      go_ret2
      exact ⟨⟨_, _, _, _, rfl⟩, H2.out.1, HK.out.trans H2.out.2 (fun i hi => .inl hi)⟩
      refine (tells_then H1.out ⟨5, true, false, 0⟩ ?_ ?_ _ _).mono ?_
      · apply Blk.cast
        · repeat (first | (with_reducible first | apply Blk.set | apply Blk.alloc) | exact H1.out.low)
        · simp [Wt.cells]
      · repeat (with_reducible first | exact Keep.refl _ _ | apply Keep.set1 | apply Keep.alloc)
      rintro e w2 ⟨⟨A, n, m2, rfl⟩, h2, k2⟩
      have H2 := Lib.hid (And.intro h2 k2)
      clear h2 k2
      go_wp2_with fail
      go_ret2
      exact ⟨⟨_, _, _, _, rfl⟩, H2.out.1, HK.out.trans H2.out.2 (fun i hi => .inl hi)⟩
      refine (tells_then H1.out ⟨127, true, false, 0⟩ ?_ ?_ _ _).mono ?_
      · apply Blk.cast
        · repeat (first | (with_reducible first | apply Blk.set | apply Blk.alloc) | exact H1.out.low)
        · simp [Wt.cells]
      · repeat (with_reducible first | exact Keep.refl _ _ | apply Keep.set1 | apply Keep.alloc)
      rintro e w2 ⟨⟨A, n, m2, rfl⟩, h2, k2⟩
      have H2 := Lib.hid (And.intro h2 k2)
      clear h2 k2
      go_wp2_with fail
      go_ret2
      exact ⟨⟨_, _, _, _, rfl⟩, H2.out.1, HK.out.trans H2.out.2 (fun i hi => .inl hi)⟩
end Go.Proofs.Ytcmfcnljdeddfaa.Beat
