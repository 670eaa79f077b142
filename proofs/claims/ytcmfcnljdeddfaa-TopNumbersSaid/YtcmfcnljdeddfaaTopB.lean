/- What nmt's Take comes to. -/
import Derived.Test.YtcmfcnljdeddfaaTopA
namespace Go.Proofs.Ytcmfcnljdeddfaa.Nmt
open Go.RowKit Go.Proofs.Ytcmfcnljdeddfaa.Own

/-- The command that is taken out of two bytes; 0: none. -/
def Nd.cmd (d : Nd) : List Int → Int
  | [c, n] => if (d.state ≠ 0 ∧ d.id ≠ 0 ∧ (n = 0 ∨ n = d.id)) ∧ (c = 1 ∨ c = 2 ∨ c = 128 ∨ c = 129 ∨ c = 130) then c else 0
  | _ => 0
def Nd.does (d : Nd) (c : Int) : Nd :=
  if c = 1 then { d with state := 5 } else if c = 2 then { d with state := 4 } else if c = 128 then { d with state := 127 }
  else if c = 129 then { d with state := 0, id := d.next, boots := wrap64 (d.boots + 1) } else if c = 130 then { d with state := 0, id := d.next, talks := wrap64 (d.talks + 1) } else d
def TakePost (w : World) (g : Nat) (d : Nd) (c : Int) (e : Ending) (w' : World) : Prop := e = .returned (.int .i64 c) ∧ IsNd w' g (d.does c) ∧ Keep (One g) w w'
theorem Nd.does_0 (d : Nd) : d.does 0 = d := by simp [Nd.does]

theorem Take_len {w : World} {g : Nat} {d : Nd} (h : IsNd w g d) (A : Option Addr) (n c : Nat) (hn : n ≠ 2) :
    Calls Try.prog 11 #[.pointer (some ⟨g, 0, none⟩), .slice A n c] w (TakePost w g d 0) := by
  have hb : ((n : Int) != 2) = true := by simp; omega
  obtain ⟨c0, c1, c2, c3, c4, f0, f1, f2, f3, f4⟩ := h.facts
  have H := Lib.hid h
  clear h hn
  go_enter Try.func11, Try.ntmps11
  go_wp2_with fail
  go_quiet (fail)
  go_wp2
  go_ret
  exact ⟨rfl, by rw [Nd.does_0]; exact H.out, (Keep.refl _ _).drewN _⟩

set_option maxHeartbeats 4000000 in
theorem Take_no {w : World} {g : Nat} {d : Nd} (h : IsNd w g d) (b o c : Nat) (y : Int) (hy : w.cell? ⟨b, o + 1, none⟩ = some (.int .u8 y)) (y0 : 0 ≤ y) (y1 : y ≤ 255)
    (hno : ¬ (d.state ≠ 0 ∧ d.id ≠ 0 ∧ (y = 0 ∨ y = d.id))) :
    Calls Try.prog 11 #[.pointer (some ⟨g, 0, none⟩), .slice (some ⟨b, o, none⟩) 2 c] w (TakePost w g d 0) := by
  obtain ⟨c0, c1, c2, c3, c4, f0, f1, f2, f3, f4⟩ := h.facts
  have H := Lib.hid h
  clear h
  by_cases hs : d.state = 0
  · have hb : (d.state == 0) = true := by simp [hs]
    clear hs hno
    go_enter Try.func11, Try.ntmps11
    go_wp2_with fail
    go_quiet (fail)
    go_wp2
    go_ret
    exact ⟨rfl, by rw [Nd.does_0]; exact H.out, (Keep.refl _ _).drewN _⟩
  · have hb : (d.state == 0) = false := by simp [hs]
    by_cases hi : d.id = 0
    · have hb2 : (d.id == 0) = true := by simp [hi]
      clear hs hno hi
      go_enter Try.func11, Try.ntmps11
      go_wp2_with fail
      go_quiet (fail)
      go_wp2
      go_ret
      exact ⟨rfl, by rw [Nd.does_0]; exact H.out, (Keep.refl _ _).drewN _⟩
    · have hb2 : (d.id == 0) = false := by simp [hi]
      have hb3 : (y != 0) = true := by simp; exact fun e => hno ⟨hs, hi, .inl e⟩
      have hb4 : (y != d.id) = true := by simp; exact fun e => hno ⟨hs, hi, .inr e⟩
      clear hs hno hi
      go_enter Try.func11, Try.ntmps11
      go_wp2_with fail
      go_quiet (fail)
      go_wp2
      go_ret
      exact ⟨rfl, by rw [Nd.does_0]; exact H.out, (Keep.refl _ _).drewN _⟩

set_option maxHeartbeats 4000000 in
theorem Take_yes {w : World} {g : Nat} {d : Nd} (h : IsNd w g d) (b o c : Nat) (x y : Int) (hx : w.cell? ⟨b, o, none⟩ = some (.int .u8 x)) (hy : w.cell? ⟨b, o + 1, none⟩ = some (.int .u8 y)) (x0 : 0 ≤ x) (x1 : x ≤ 255) (y0 : 0 ≤ y) (y1 : y ≤ 255)
    (hb' : b ≠ g) (hs : d.state ≠ 0) (hi : d.id ≠ 0) (hid : y = 0 ∨ y = d.id) (hc : x = 1 ∨ x = 2 ∨ x = 128 ∨ x = 129 ∨ x = 130) :
    Calls Try.prog 11 #[.pointer (some ⟨g, 0, none⟩), .slice (some ⟨b, o, none⟩) 2 c] w (TakePost w g d x) := by
  obtain ⟨c0, c1, c2, c3, c4, f0, f1, f2, f3, f4⟩ := h.facts
  have H := Lib.hid h
  clear h
  have hb : (d.state == 0) = false := by simp [hs]
  have hb2 : (d.id == 0) = false := by simp [hi]
  have hb3 : ((y != 0) = false) ∨ ((y != 0) = true ∧ (y != d.id) = false) := by
    by_cases h0 : y = 0
    · exact .inl (by simp [h0])
    · exact .inr ⟨by simp [h0], by simp; exact hid.resolve_left h0⟩
  clear hs hi hid
  rcases hb3 with hb3 | ⟨hb3, hb4⟩
  all_goals
    rcases hc with rfl | rfl | rfl | rfl | rfl
    all_goals
      go_enter Try.func11, Try.ntmps11
      go_wp2_with fail
      go_quiet (fail)
      go_wp2
      go_ret
      refine ⟨rfl, ?_, ?_⟩
      · apply Blk.cast
        · repeat (first | (with_reducible first | apply Blk.set | apply Blk.drewN) | exact H.out)
        · simp [Nd.cells, Nd.does]
      · repeat (with_reducible first | exact Keep.refl _ _ | apply Keep.set1 | apply Keep.drewN)

set_option maxHeartbeats 4000000 in
theorem Take_other {w : World} {g : Nat} {d : Nd} (h : IsNd w g d) (b o c : Nat) (x y : Int) (hx : w.cell? ⟨b, o, none⟩ = some (.int .u8 x)) (hy : w.cell? ⟨b, o + 1, none⟩ = some (.int .u8 y)) (x0 : 0 ≤ x) (x1 : x ≤ 255) (y0 : 0 ≤ y) (y1 : y ≤ 255)
    (hs : d.state ≠ 0) (hi : d.id ≠ 0) (hid : y = 0 ∨ y = d.id) (hc : ¬ (x = 1 ∨ x = 2 ∨ x = 128 ∨ x = 129 ∨ x = 130)) :
    Calls Try.prog 11 #[.pointer (some ⟨g, 0, none⟩), .slice (some ⟨b, o, none⟩) 2 c] w (TakePost w g d 0) := by
  obtain ⟨c0, c1, c2, c3, c4, f0, f1, f2, f3, f4⟩ := h.facts
  have H := Lib.hid h
  clear h
  have hb : (d.state == 0) = false := by simp [hs]
  have hb2 : (d.id == 0) = false := by simp [hi]
  have hb3 : ((y != 0) = false) ∨ ((y != 0) = true ∧ (y != d.id) = false) := by
    by_cases h0 : y = 0
    · exact .inl (by simp [h0])
    · exact .inr ⟨by simp [h0], by simp; exact hid.resolve_left h0⟩
  clear hs hi hid
  have e1 : (x == 1) = false := by simp; omega
  have e2 : (x == 2) = false := by simp; omega
  have e3 : (x == 128) = false := by simp; omega
  have e4 : (x == 129) = false := by simp; omega
  have e5 : (x == 130) = false := by simp; omega
  clear hc
  rcases hb3 with hb3 | ⟨hb3, hb4⟩
  all_goals
    go_enter Try.func11, Try.ntmps11
    go_wp2_with fail
    go_quiet (fail)
    go_wp2
    go_ret
    exact ⟨rfl, by rw [Nd.does_0]; exact H.out, (Keep.refl _ _).drewN _⟩

/-- A slice of bytes, read. -/
structure Got (w : World) (A : Option Addr) (n c : Nat) (xs : List Int) : Prop where
  len : n = xs.length
  row : Row w A (ints .u8 xs)
  byte : ∀ x, x ∈ xs → 0 ≤ x ∧ x ≤ 255

theorem Take_any {w : World} {g : Nat} {d : Nd} (h : IsNd w g d) (A : Option Addr) (n c : Nat) (xs : List Int) (hg : Got w A n c xs) (hne : ∀ a, A = some a → xs ≠ [] → a.block ≠ g) :
    Calls Try.prog 11 #[.pointer (some ⟨g, 0, none⟩), .slice A n c] w (TakePost w g d (d.cmd xs)) := by
  obtain ⟨rfl, hr, hb⟩ := hg
  match xs with
  | [] => exact Take_len h _ _ _ (by simp)
  | [x] => exact Take_len h _ _ _ (by simp)
  | x :: y :: z :: r => exact Take_len h _ _ _ (by simp)
  | [x, y] =>
    obtain ⟨b, o, rfl, hl, hc⟩ := hr.head
    have hx := hc 0 (.int .u8 x) rfl
    have hy := hc 1 (.int .u8 y) rfl
    obtain ⟨x0, x1⟩ := hb x (by simp)
    obtain ⟨y0, y1⟩ := hb y (by simp)
    have hbg := hne _ rfl (by simp)
    rw [show d.cmd [x, y] = if (d.state ≠ 0 ∧ d.id ≠ 0 ∧ (y = 0 ∨ y = d.id)) ∧ (x = 1 ∨ x = 2 ∨ x = 128 ∨ x = 129 ∨ x = 130) then x else 0 from rfl]
    by_cases h1 : d.state ≠ 0 ∧ d.id ≠ 0 ∧ (y = 0 ∨ y = d.id)
    · by_cases h2 : x = 1 ∨ x = 2 ∨ x = 128 ∨ x = 129 ∨ x = 130
      · rw [if_pos ⟨h1, h2⟩]
        exact Take_yes h b o c x y hx hy x0 x1 y0 y1 hbg h1.1 h1.2.1 h1.2.2 h2
      · rw [if_neg (fun k => h2 k.2)]
        exact Take_other h b o c x y hx hy x0 x1 y0 y1 h1.1 h1.2.1 h1.2.2 h2
    · rw [if_neg (fun k => h1 k.1)]
      exact Take_no h b o c y hy y0 y1 h1

end Go.Proofs.Ytcmfcnljdeddfaa.Nmt
