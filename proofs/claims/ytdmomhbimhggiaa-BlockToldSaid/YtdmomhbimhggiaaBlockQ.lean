/- Where one byte comes as another one: frames, and what the receiver has. -/
import Derived.Test.YtdmomhbimhggiaaBlockP
namespace Go.Proofs.Ytdmomhbimhggiaa.Block
open Go.RowKit Go.Proofs.Ytdmomhbimhggiaa.Own Go.Proofs.Ytdmomhbimhggiaa.Crc
/-- A segment comes that is the next one: whatever bytes it bears. -/
theorem feed_any {w : World} {gr base size i : Nat} {xs : List Int} {la : Nat → Int} {V : Value} (h : IsRcv w gr base ⟨size, 0, i, la, V, xs, 0⟩) (F : Nat → Int) (hF : ∀ k, 0 ≤ F k ∧ F k ≤ 255) (hi : i ≤ 126) (fl : Bool) (h0 : F 0 = ((i + 1 : Nat) : Int) + (if fl then 128 else 0)) (hx : xs.length + 7 ≤ 65543) :
    Calls Try.prog 16 #[.pointer (some ⟨gr, 0, none⟩), aggF F] w fun e w' =>
      (fl = true ∨ i + 1 = size) ∧ e = .returned (.tuple #[aggF (ansF (i + 1) size), .bool true]) ∧ (∃ V', Hid (IsRcv w' gr base ⟨size, if fl then 1 else 0, 0, ansF (i + 1) size, V', xs ++ seven F, 0⟩ ∧ Keep (RS ⟨size, 0, i, la, V, xs, 0⟩ gr) w w'))
      ∨ ¬ (fl = true ∨ i + 1 = size) ∧ e = .returned (.tuple #[aggF (fun _ => 0), .bool false]) ∧ (∃ V', Hid (IsRcv w' gr base ⟨size, 0, i + 1, la, V', xs ++ seven F, 0⟩ ∧ Keep (RS ⟨size, 0, i, la, V, xs, 0⟩ gr) w w')) := by
  have ht := RFeed_0 h rfl F _ _ _ (fun W hk => (takes_go (h.keep hk (fun _ _ => id)) (i + 1) fl rfl (by omega) _ h0 hF hx).mono (fun e w' hp => take_feed hp))
  refine ht.mono ?_
  rintro e w' ⟨rfl, V', hp'⟩
  by_cases hc : fl = true ∨ i + 1 = size
  · left
    have e1 : (fl || i + 1 == size) = true := by
      rcases hc with hc | hc <;> simp [hc]
    refine ⟨hc, ?_, V', Lib.hid ⟨?_, hp'.out.2⟩⟩
    · simp only [e1, if_true]
    · have h1 := hp'.out.1
      simp only [e1, if_true] at h1
      exact h1
  · right
    have e1 : (fl || i + 1 == size) = false := by
      simp only [not_or, Bool.not_eq_true] at hc
      simp [hc]
    refine ⟨hc, ?_, V', Lib.hid ⟨?_, hp'.out.2⟩⟩
    · simp only [e1, Bool.false_eq_true, if_false]
    · have h1 := hp'.out.1
      simp only [e1, Bool.false_eq_true, if_false] at h1
      exact h1
theorem endF_byte {bs : List Int} (hb : ∀ x ∈ bs, 0 ≤ x ∧ x ≤ 255) (k : Nat) : 0 ≤ endF bs k ∧ endF bs k ≤ 255 := by
  have sb := segs_bound bs
  have hc := crc_lt hb
  unfold endF
  split
  · omega
  · split
    · omega
    · split <;> omega
/-- The end comes, whatever came. -/
theorem feed_end_good {w : World} {gr base size : Nat} {bs xs : List Int} {la : Nat → Int} {V : Value} (h : IsRcv w gr base ⟨size, 1, 0, la, V, xs, 0⟩) (hb : ∀ x ∈ bs, 0 ≤ x ∧ x ≤ 255) (hl : bs.length ≤ 65536) (hx : xs.length = 7 * segs bs) (ht : xs.take bs.length = bs) :
    Calls Try.prog 16 #[.pointer (some ⟨gr, 0, none⟩), aggF (endF bs)] w fun e w' => e = .returned (.tuple #[aggF (fun k => if k = 0 then 161 else 0), .bool true]) ∧ (∃ V', Hid (IsRcv w' gr base ⟨size, 2, 0, la, V', bs, 0⟩ ∧ Keep (RS ⟨size, 1, 0, la, V, xs, 0⟩ gr) w w')) := by
  have sb := segs_bound bs
  have hc := crc_lt hb
  have h0 : endF bs 0 = 193 + 4 * ((7 * segs bs - bs.length : Nat) : Int) := rfl
  refine (RFeed_1 h rfl (endF bs) _ (7 * segs bs - bs.length) (by omega) h0 true _ (fun W hk => end_ok (h.keep hk (fun _ _ => id)) (endF bs) (7 * segs bs - bs.length) bs.length (by omega) (by show xs.length = _; omega) hl h0 (endF_byte hb) (by
    show endF bs 1 + endF bs 2 * 256 = (crc (xs.take bs.length) : Int)
    rw [ht]
    show (crc bs : Int) % 256 + (crc bs : Int) / 256 * 256 = _
    omega))).mono ?_
  rintro e w' ⟨rfl, V', hp'⟩
  refine ⟨rfl, V', Lib.hid ⟨?_, hp'.out.2⟩⟩
  have h1 := hp'.out.1
  simp only [ht] at h1
  exact h1
theorem feed_end_bad {w : World} {gr base size : Nat} {bs xs : List Int} {la : Nat → Int} {V : Value} (h : IsRcv w gr base ⟨size, 1, 0, la, V, xs, 0⟩) (hb : ∀ x ∈ bs, 0 ≤ x ∧ x ≤ 255) (hl : bs.length ≤ 65536) (hx : xs.length = 7 * segs bs) (ht : crc (xs.take bs.length) ≠ crc bs) :
    Calls Try.prog 16 #[.pointer (some ⟨gr, 0, none⟩), aggF (endF bs)] w fun e w' => e = .returned (.tuple #[aggF (abF 84148228), .bool true]) ∧ (∃ V', Hid (IsRcv w' gr base ⟨size, 2, 0, la, V', [], 84148228⟩ ∧ Keep (RS ⟨size, 1, 0, la, V, xs, 0⟩ gr) w w')) := by
  have sb := segs_bound bs
  have hc := crc_lt hb
  have h0 : endF bs 0 = 193 + 4 * ((7 * segs bs - bs.length : Nat) : Int) := rfl
  refine (RFeed_1 h rfl (endF bs) _ (7 * segs bs - bs.length) (by omega) h0 true _ (fun W hk => end_bad (h.keep hk (fun _ _ => id)) (endF bs) (7 * segs bs - bs.length) bs.length (by omega) (by show xs.length = _; omega) hl h0 (endF_byte hb) (by
    show ¬ (crc (xs.take bs.length) : Int) = endF bs 1 + endF bs 2 * 256
    have e : endF bs 1 + endF bs 2 * 256 = (crc bs : Int) := by
      show (crc bs : Int) % 256 + (crc bs : Int) / 256 * 256 = _
      omega
    rw [e]
    omega))).mono ?_
  rintro e w' ⟨rfl, V', hp'⟩
  exact ⟨rfl, V', Lib.hid ⟨hp'.out.1, hp'.out.2⟩⟩
/-- A frame, one of whose bytes comes as another one. -/
def bent (F : Nat → Int) (j : Nat) (y : Int) : Nat → Int := fun k => if k = j then y else F k
/-- Is segment k the one, and its frame one that is bent? -/
def hit (bs : List Int) (a : Nat) : Prop := a < segs bs ∧ segF bs a (a % 127) 0 < 193
instance (bs : List Int) (a : Nat) : Decidable (hit bs a) := inferInstanceAs (Decidable (_ ∧ _))
/-- What came of the first k segments. -/
def padsB (bs : List Int) (a q : Nat) (y : Int) (k : Nat) : List Int := if a < k ∧ hit bs a then (pads bs k).set (7 * a + q) y else pads bs k
theorem padsB_length (bs : List Int) (a q : Nat) (y : Int) (k : Nat) : (padsB bs a q y k).length = 7 * k := by
  unfold padsB
  split
  · rw [List.length_set, pads_length]
  · exact pads_length bs k
theorem padsB_other {bs : List Int} {a q : Nat} {y : Int} {k : Nat} (hq : q < 7) (h : ¬ (a = k ∧ hit bs a)) (i : Nat) : padsB bs a q y (k + 1) = padsB bs a q y k ++ seven (segF bs k i) := by
  unfold padsB
  by_cases h1 : a < k ∧ hit bs a
  · rw [if_pos h1, if_pos ⟨by omega, h1.2⟩, pads_succ bs k i, List.set_append_left]
    rw [pads_length]
    omega
  · rw [if_neg h1, if_neg (fun h2 => by
      by_cases e : a = k
      · exact h ⟨e, h2.2⟩
      · exact h1 ⟨by omega, h2.2⟩), pads_succ bs k i]
theorem padsB_hit {bs : List Int} {q : Nat} {y : Int} {k : Nat} (hq : q < 7) (h : hit bs k) (i : Nat) : padsB bs k q y (k + 1) = padsB bs k q y k ++ seven (bent (segF bs k i) (1 + q) y) := by
  unfold padsB
  rw [if_pos ⟨by omega, h⟩, if_neg (by omega), pads_succ bs k i, List.set_append_right _ _ (by rw [pads_length]; omega), pads_length]
  congr 1
  rw [show 7 * k + q - 7 * k = q by omega]
  unfold seven bent
  rcases q with _ | _ | _ | _ | _ | _ | _ | q
  all_goals first | rfl | omega
/-- What is had at the end: the bytes, or one of them another one. -/
theorem padsB_take (bs : List Int) (a q : Nat) (y : Int) : (padsB bs a q y (segs bs)).take bs.length = bs ∨ (hit bs a ∧ (padsB bs a q y (segs bs)).take bs.length = bs.set (7 * a + q) y) := by
  have hp := pads_take bs (segs bs) (segs_bound bs).1
  unfold padsB
  split
  · rename_i h
    right
    refine ⟨h.2, ?_⟩
    rw [List.take_set, hp]
  · left
    exact hp
end Go.Proofs.Ytdmomhbimhggiaa.Block
