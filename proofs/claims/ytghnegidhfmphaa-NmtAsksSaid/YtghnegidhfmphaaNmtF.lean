/- What the document's Take comes to. -/
import Derived.Test.YtghnegidhfmphaaNmtE
namespace Go.Proofs.Ytghnegidhfmphaa.Nmt
open Go.RowKit Go.Proofs.Ytghnegidhfmphaa.Own
def RTakePost (w : World) (g : Nat) (d : Nd) (c : Int) (e : Ending) (w' : World) : Prop := e = .returned (.int .i64 c) ∧ IsRf w' g (d.does c) ∧ Keep (One g) w w'

theorem Is_is {x : Int} {b : Bool} (h : isB x = b) (w : World) : Calls Try.prog 21 #[.int .i64 x] w fun e w' => e = .returned (.bool b) ∧ w = w' := h ▸ Is_any x w
theorem RTake_len {w : World} {g : Nat} {d : Nd} (h : IsRf w g d) (A : Option Addr) (n c : Nat) (hn : n ≠ 2) :
    Calls Try.prog 17 #[.pointer (some ⟨g, 0, none⟩), .slice A n c] w (RTakePost w g d 0) := by
  have hb : ((n : Int) != 2) = true := by simp; omega
  obtain ⟨c0, c1, c2, c3, c4, f0, f1, f2, f3, f4⟩ := h.facts
  have H := Lib.hid h
  clear h hn
  go_enter Try.func17, Try.ntmps17
  go_wp2_with fail
  go_quiet (fail)
  go_wp2
  go_ret
  exact ⟨rfl, by rw [Nd.does_0]; exact H.out, (Keep.refl _ _).drewN _⟩

set_option maxHeartbeats 4000000 in
theorem RTake_no {w : World} {g : Nat} {d : Nd} (h : IsRf w g d) (b o c : Nat) (x y : Int) (hx : w.cell? ⟨b, o, none⟩ = some (.int .u8 x)) (hy : w.cell? ⟨b, o + 1, none⟩ = some (.int .u8 y)) (x0 : 0 ≤ x) (x1 : x ≤ 255) (y0 : 0 ≤ y) (y1 : y ≤ 255)
    (hno : ¬ ((d.state ≠ 0 ∧ d.id ≠ 0 ∧ (y = 0 ∨ y = d.id)) ∧ (x = 1 ∨ x = 2 ∨ x = 128 ∨ x = 129 ∨ x = 130))) :
    Calls Try.prog 17 #[.pointer (some ⟨g, 0, none⟩), .slice (some ⟨b, o, none⟩) 2 c] w (RTakePost w g d 0) := by
  obtain ⟨c0, c1, c2, c3, c4, f0, f1, f2, f3, f4⟩ := h.facts
  have H := Lib.hid h
  clear h
  by_cases hc : x = 1 ∨ x = 2 ∨ x = 128 ∨ x = 129 ∨ x = 130
  · have hi : Hid (isB x = true) := by unfold Hid isB; rcases hc with rfl | rfl | rfl | rfl | rfl <;> rfl
    by_cases hd : d.id = 0
    · have hb2 : (d.id == 0) = true := by simp [hd]
      clear hc hd hno
      go_enter Try.func17, Try.ntmps17
      go_wp2_with fail
      go_quiet ((go_at_call 21; exact quiet_eq (Is_is hi.out _)))
      go_wp2
      go_ret
      exact ⟨rfl, by rw [Nd.does_0]; exact H.out, (Keep.refl _ _).drewN _⟩
    · have hb2 : (d.id == 0) = false := by simp [hd]
      by_cases hs : d.state = 0
      · have hb3 : (d.state == 0) = true := by simp [hs]
        clear hc hd hs hno
        go_enter Try.func17, Try.ntmps17
        go_wp2_with fail
        go_quiet ((go_at_call 21; exact quiet_eq (Is_is hi.out _)))
        go_wp2
        go_ret
        exact ⟨rfl, by rw [Nd.does_0]; exact H.out, (Keep.refl _ _).drewN _⟩
      · have hb3 : (d.state == 0) = false := by simp [hs]
        have hb4 : (y != 0) = true := by simp; exact fun e => hno ⟨⟨hs, hd, .inl e⟩, hc⟩
        have hb5 : (y != d.id) = true := by simp; exact fun e => hno ⟨⟨hs, hd, .inr e⟩, hc⟩
        clear hc hd hs hno
        go_enter Try.func17, Try.ntmps17
        go_wp2_with fail
        go_quiet ((go_at_call 21; exact quiet_eq (Is_is hi.out _)))
        go_wp2
        go_ret
        exact ⟨rfl, by rw [Nd.does_0]; exact H.out, (Keep.refl _ _).drewN _⟩
  · have hi : Hid (isB x = false) := by
      unfold Hid isB
      simp
      omega
    clear hc hno
    go_enter Try.func17, Try.ntmps17
    go_wp2_with fail
    go_quiet ((go_at_call 21; exact quiet_eq (Is_is hi.out _)))
    go_wp2
    go_ret
    exact ⟨rfl, by rw [Nd.does_0]; exact H.out, (Keep.refl _ _).drewN _⟩

set_option maxHeartbeats 8000000 in
theorem RTake_yes {w : World} {g : Nat} {d : Nd} (h : IsRf w g d) (b o c : Nat) (x y : Int) (hx : w.cell? ⟨b, o, none⟩ = some (.int .u8 x)) (hy : w.cell? ⟨b, o + 1, none⟩ = some (.int .u8 y)) (x0 : 0 ≤ x) (x1 : x ≤ 255) (y0 : 0 ≤ y) (y1 : y ≤ 255)
    (_hb : b ≠ g) (hs : d.state ≠ 0) (hi : d.id ≠ 0) (hid : y = 0 ∨ y = d.id) (hc : x = 1 ∨ x = 2 ∨ x = 128 ∨ x = 129 ∨ x = 130) :
    Calls Try.prog 17 #[.pointer (some ⟨g, 0, none⟩), .slice (some ⟨b, o, none⟩) 2 c] w (RTakePost w g d x) := by
  obtain ⟨c0, c1, c2, c3, c4, f0, f1, f2, f3, f4⟩ := h.facts
  have H := Lib.hid h
  clear h
  have hb : (d.state == 0) = false := by simp [hs]
  have hb2 : (d.id == 0) = false := by simp [hi]
  have hb3 : ((y != 0) = false) ∨ ((y != 0) = true ∧ (y != d.id) = false) := by
    by_cases h0 : y = 0
    · exact .inl (by simp [h0])
    · exact .inr ⟨by simp [h0], by simp; exact hid.resolve_left h0⟩
  clear hs hi hid
  rcases hb3 with hb3 | ⟨hb3, hb4⟩
  all_goals
    rcases hc with rfl | rfl | rfl | rfl | rfl
    all_goals
      go_enter Try.func17, Try.ntmps17
      go_wp2_with fail
      go_quiet ((go_at_call 21; exact quiet_eq (Is_is (b := true) rfl _)))
      go_wp2
      go_ret
      refine ⟨rfl, ?_, ?_⟩
      · apply Blk.cast
        · repeat (first | (with_reducible first | apply Blk.set | apply Blk.drewN) | exact H.out)
        · simp [Nd.cells, Nd.does]
      · repeat (with_reducible first | exact Keep.refl _ _ | apply Keep.set1 | apply Keep.drewN)

theorem RTake_any {w : World} {g : Nat} {d : Nd} (h : IsRf w g d) (A : Option Addr) (n c : Nat) (xs : List Int) (hg : Got w A n c xs) (hne : ∀ a, A = some a → xs ≠ [] → a.block ≠ g) :
    Calls Try.prog 17 #[.pointer (some ⟨g, 0, none⟩), .slice A n c] w (RTakePost w g d (d.cmd xs)) := by
  obtain ⟨rfl, hr, hb⟩ := hg
  match xs with
  | [] => exact RTake_len h _ _ _ (by simp)
  | [x] => exact RTake_len h _ _ _ (by simp)
  | x :: y :: z :: r => exact RTake_len h _ _ _ (by simp)
  | [x, y] =>
    obtain ⟨b, o, rfl, hl, hc⟩ := hr.head
    have hx := hc 0 (.int .u8 x) rfl
    have hy := hc 1 (.int .u8 y) rfl
    obtain ⟨x0, x1⟩ := hb x (by simp)
    obtain ⟨y0, y1⟩ := hb y (by simp)
    have hbg := hne _ rfl (by simp)
    rw [show d.cmd [x, y] = if (d.state ≠ 0 ∧ d.id ≠ 0 ∧ (y = 0 ∨ y = d.id)) ∧ (x = 1 ∨ x = 2 ∨ x = 128 ∨ x = 129 ∨ x = 130) then x else 0 from rfl]
    by_cases h1 : (d.state ≠ 0 ∧ d.id ≠ 0 ∧ (y = 0 ∨ y = d.id)) ∧ (x = 1 ∨ x = 2 ∨ x = 128 ∨ x = 129 ∨ x = 130)
    · rw [if_pos h1]
      exact RTake_yes h b o c x y hx hy x0 x1 y0 y1 hbg h1.1.1 h1.1.2.1 h1.1.2.2 h1.2
    · rw [if_neg h1]
      exact RTake_no h b o c x y hx hy x0 x1 y0 y1 h1
theorem SetID_r {w : World} {g : Nat} {d : Nd} (h : IsNd w g d) (x r : Int) (hr : r = if 0 ≤ x ∧ x ≤ 127 then 0 else 1) : Calls Try.prog 19 #[.pointer (some ⟨g, 0, none⟩), .int .i64 x] w fun e w' => e = .returned (.int .i64 r) ∧ Hid (IsNd w' g (d.sets x)) ∧ Hid (Keep (One g) w w') := hr ▸ SetID_any h x
theorem RSetID_r {w : World} {g : Nat} {d : Nd} (h : IsRf w g d) (x r : Int) (hr : r = if 0 ≤ x ∧ x ≤ 127 then 0 else 1) : Calls Try.prog 20 #[.pointer (some ⟨g, 0, none⟩), .int .i64 x] w fun e w' => e = .returned (.int .i64 r) ∧ Hid (IsRf w' g (d.sets x)) ∧ Hid (Keep (One g) w w') := hr ▸ RSetID_any h x
theorem Take_r {w : World} {g : Nat} {d : Nd} (h : IsNd w g d) (A : Option Addr) (n c : Nat) (xs : List Int) (hg : Got w A n c xs) (hne : ∀ a, A = some a → xs ≠ [] → a.block ≠ g) (r : Int) (hr : r = d.cmd xs) :
    Calls Try.prog 10 #[.pointer (some ⟨g, 0, none⟩), .slice A n c] w fun e w' => e = .returned (.int .i64 r) ∧ Hid (IsNd w' g (d.does r)) ∧ Hid (Keep (One g) w w') := hr ▸ Take_any h A n c xs hg hne
theorem RTake_r {w : World} {g : Nat} {d : Nd} (h : IsRf w g d) (A : Option Addr) (n c : Nat) (xs : List Int) (hg : Got w A n c xs) (hne : ∀ a, A = some a → xs ≠ [] → a.block ≠ g) (r : Int) (hr : r = d.cmd xs) :
    Calls Try.prog 17 #[.pointer (some ⟨g, 0, none⟩), .slice A n c] w fun e w' => e = .returned (.int .i64 r) ∧ Hid (IsRf w' g (d.does r)) ∧ Hid (Keep (One g) w w') := hr ▸ RTake_any h A n c xs hg hne
theorem RStep_r {w : World} {g : Nat} {d : Nd} (h : IsRf w g d) (b : Bool) (hb : d.steps = b) : Calls Try.prog 18 #[.pointer (some ⟨g, 0, none⟩)] w fun e w' => e = .returned (.bool b) ∧ Hid (IsRf w' g d.step) ∧ Hid (Keep (One g) w w') := hb ▸ RStep_any h
theorem Step_no {w : World} {g : Nat} {d : Nd} (h : IsNd w g d) (hs : d.steps = false) : Calls Try.prog 9 #[.pointer (some ⟨g, 0, none⟩)] w fun e w' =>
    ∃ A c, e = .returned (.tuple #[.slice A 0 c, .bool false]) ∧ IsNd w' g d.step ∧ Keep (One g) w w' := by
  refine (Step_any h).mono ?_
  rintro e w' ⟨A, c, he, hr, hi, hk, _⟩
  rw [hs] at he hr
  exact ⟨A, c, he, hi, hk⟩
end Go.Proofs.Ytghnegidhfmphaa.Nmt
