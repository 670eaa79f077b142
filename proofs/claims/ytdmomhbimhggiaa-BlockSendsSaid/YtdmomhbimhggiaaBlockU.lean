/- Both senders, answered alike. -/
import Derived.Test.YtdmomhbimhggiaaBlockS
import Derived.Test.YtdmomhbimhggiaaBlockK
namespace Go.Proofs.Ytdmomhbimhggiaa.Block
open Go.RowKit Go.Proofs.Ytdmomhbimhggiaa.Own Go.Proofs.Ytdmomhbimhggiaa.Crc
/-- Both stand alike. -/
def Alike (s : Snd) (d : Doc) : Prop :=
  s.bs = d.bs ∧
  ((s.begun = false ∧ s.done = false ∧ s.code = 0 ∧ d.wait = 0 ∧ d.code = 0 ∧ s.at' = 0) ∨
   (s.begun = true ∧ s.done = false ∧ s.ends = false ∧ s.code = 0 ∧ d.wait = 1 ∧ d.code = 0 ∧ s.at' = d.at' ∧ s.many = d.many ∧ s.at' + s.many ≤ segs s.bs ∧ s.many ≤ 127) ∨
   (s.begun = true ∧ s.done = false ∧ s.ends = true ∧ s.code = 0 ∧ d.wait = 2 ∧ d.code = 0) ∨
   (s.begun = true ∧ s.done = true ∧ d.wait = 3 ∧ s.code = d.code))
def OutS (g : Nat) (s2 : Snd) (l : List (Nat → Int)) (w : World) (e : Ending) (w' : World) : Prop :=
  ∃ A c, e = .returned (.slice A l.length c) ∧ Hid (IsSnd w' g s2 ∧ Row w' A (cellsOf l) ∧ (∀ a, A = some a → w.heap.size ≤ a.block) ∧ Keep (Own.One g) w w')
def OutD (g : Nat) (d2 : Doc) (l : List (Nat → Int)) (w : World) (e : Ending) (w' : World) : Prop :=
  ∃ A c, e = .returned (.slice A l.length c) ∧ Hid (IsDoc w' g d2 ∧ Row w' A (cellsOf l) ∧ (∀ a, A = some a → w.heap.size ≤ a.block) ∧ Keep (Own.One g) w w')
theorem FrAt.out {w : World} {b m c : Nat} {A : Option Addr} {l : List (Nat → Int)} (h : FrAt w b A m c l) : Row w A (cellsOf l) ∧ ∀ a, A = some a → b ≤ a.block := by
  obtain ⟨A', c', he, hr, _, _, hb⟩ := Row.own h
  simp only [Value.slice.injEq] at he
  rw [he.1]
  exact ⟨hr, hb⟩
theorem outS_nil {g : Nat} {s2 : Snd} {w : World} {e : Ending} {w' : World} (h : e = .returned (.slice none 0 0) ∧ Hid (IsSnd w' g s2 ∧ Keep (Own.One g) w w')) : OutS g s2 [] w e w' :=
  ⟨none, 0, h.1, Lib.hid ⟨h.2.out.1, Row.nil _ _, (fun _ h => by cases h), h.2.out.2⟩⟩
theorem outD_nil {g : Nat} {d2 : Doc} {w : World} {e : Ending} {w' : World} (h : e = .returned (.slice none 0 0) ∧ Hid (IsDoc w' g d2 ∧ Keep (Own.One g) w w')) : OutD g d2 [] w e w' :=
  ⟨none, 0, h.1, Lib.hid ⟨h.2.out.1, Row.nil _ _, (fun _ h => by cases h), h.2.out.2⟩⟩
theorem outS_fr {g m : Nat} {s2 : Snd} {l : List (Nat → Int)} (hm : m = l.length) {w : World} {e : Ending} {w' : World} (h : ∃ A c, e = .returned (.slice A m c) ∧ Hid (IsSnd w' g s2 ∧ FrAt w' w.heap.size A m c l ∧ Keep (Own.One g) w w')) : OutS g s2 l w e w' := by
  obtain ⟨A, c, rfl, hp⟩ := h
  exact ⟨A, c, by rw [hm], Lib.hid ⟨hp.out.1, hp.out.2.1.out.1, hp.out.2.1.out.2, hp.out.2.2⟩⟩
theorem outD_fr {g m : Nat} {d2 : Doc} {l : List (Nat → Int)} (hm : m = l.length) {w : World} {e : Ending} {w' : World} (h : ∃ A c, e = .returned (.slice A m c) ∧ Hid (IsDoc w' g d2 ∧ FrAt w' w.heap.size A m c l ∧ Keep (Own.One g) w w')) : OutD g d2 l w e w' := by
  obtain ⟨A, c, rfl, hp⟩ := h
  exact ⟨A, c, by rw [hm], Lib.hid ⟨hp.out.1, hp.out.2.1.out.1, hp.out.2.1.out.2, hp.out.2.2⟩⟩
theorem framesF_length (bs : List Int) (p m : Nat) : (framesF bs p m).length = m := by simp [framesF]
/-- Whatever comes: the same frames, and they stand alike behind it. -/
theorem both {s : Snd} {d : Doc} (h : Alike s d) (F : Nat → Int) (hF : ∀ k, 0 ≤ F k ∧ F k ≤ 255) :
    ∃ s2 d2 l, Alike s2 d2 ∧ s2.A = s.A ∧ d2.A = d.A ∧ d2.bs = d.bs ∧ s2.begun = s.begun ∧ l.length ≤ 127 ∧ (∀ w g, IsSnd w g s → Calls Try.prog 9 #[.pointer (some ⟨g, 0, none⟩), aggF F] w (OutS g s2 l w)) ∧ (∀ w g, IsDoc w g d → Calls Try.prog 13 #[.pointer (some ⟨g, 0, none⟩), aggF F] w (OutD g d2 l w)) := by
  obtain ⟨hbs, h0 | h1 | h2 | h3⟩ := h
  · exact ⟨s, d, [], ⟨hbs, .inl h0⟩, rfl, rfl, rfl, rfl, by decide, fun w g hs => (Feed_deaf hs (.inl h0.1) F).mono fun _ _ hp => outS_nil hp, fun w g hd => (DFeed_deaf hd (.inl h0.2.2.2.1) F).mono fun _ _ hp => outD_nil hp⟩
  · obtain ⟨hb, hd, he, hc, hw, hdc, hat, hmy, hle, h127⟩ := h1
    by_cases h4 : F 0 / 32 = 4
    · exact ⟨{ s with done := true, code := numF F }, { d with wait := 3, code := numF F }, [], ⟨hbs, .inr (.inr (.inr ⟨hb, rfl, rfl, rfl⟩))⟩, rfl, rfl, rfl, rfl, by decide, fun w g hs => (Feed_abort hs hb hd F hF h4).mono fun _ _ hp => outS_nil hp, fun w g hd' => (DFeed_abort hd' (.inl hw) F hF h4).mono fun _ _ hp => outD_nil hp⟩
    by_cases h162 : F 0 = 162
    · by_cases hseq : (s.many : Int) < F 1
      · exact ⟨{ s with done := true, code := 84148227 }, { d with wait := 3, code := 84148227 }, [abF 84148227], ⟨hbs, .inr (.inr (.inr ⟨hb, rfl, rfl, rfl⟩))⟩, rfl, rfl, rfl, rfl, by decide, fun w g hs => (Feed_seq hs hb hd F hF he h162 hseq).mono fun _ _ hp => outS_fr rfl hp, fun w g hd' => (DFeed_seq hd' hw F hF h162 (by rw [← hmy]; exact hseq)).mono fun _ _ hp => outD_fr rfl hp⟩
      · by_cases hblk : F 2 < 1 ∨ 127 < F 2
        · exact ⟨{ s with done := true, code := 84148226 }, { d with wait := 3, code := 84148226 }, [abF 84148226], ⟨hbs, .inr (.inr (.inr ⟨hb, rfl, rfl, rfl⟩))⟩, rfl, rfl, rfl, rfl, by decide, fun w g hs => (Feed_blk hs hb hd F hF he h162 hseq hblk).mono fun _ _ hp => outS_fr rfl hp, fun w g hd' => (DFeed_blk hd' hw F hF h162 (by rw [← hmy]; exact hseq) hblk).mono fun _ _ hp => outD_fr rfl hp⟩
        · have f1 := hF 1
          obtain ⟨j, hj⟩ : ∃ j : Nat, F 1 = j := ⟨(F 1).toNat, by omega⟩
          obtain ⟨k, hk⟩ : ∃ k : Nat, F 2 = k := ⟨(F 2).toNat, by omega⟩
          have hag : aggF F = .agg #[.int .u8 162, .int .u8 j, .int .u8 k, .int .u8 (F 3), .int .u8 (F 4), .int .u8 (F 5), .int .u8 (F 6), .int .u8 (F 7)] := by
            unfold aggF
            rw [h162, hj, hk]
          rw [hag]
          have hjm : j ≤ s.many := by omega
          by_cases hmore : s.at' + j < segs s.bs
          · obtain ⟨m, hm⟩ : ∃ m, m = min k (segs s.bs - (s.at' + j)) := ⟨_, rfl⟩
            refine ⟨{ s with at' := s.at' + j, many := m }, { d with at' := d.at' + j, many := m }, framesF s.bs (s.at' + j) m, ⟨hbs, .inr (.inl ⟨hb, hd, he, hc, hw, hdc, by show s.at' + j = d.at' + j; rw [hat], rfl, by show s.at' + j + m ≤ segs s.bs; omega, by show m ≤ 127; omega⟩)⟩, rfl, rfl, rfl, rfl, by rw [framesF_length]; omega, fun w g hs => (Feed_more hs hb hd he j k (F 3) (F 4) (F 5) (F 6) (F 7) hjm (by omega) (by omega) (by omega) hmore m hm).mono fun _ _ hp => outS_fr (framesF_length _ _ _).symm hp, fun w g hd' => (DFeed_more hd' hw j k (F 3) (F 4) (F 5) (F 6) (F 7) (by rw [← hmy]; exact hjm) (by omega) (by omega) (by omega) (by rw [← hbs, ← hat]; exact hmore) m (by rw [← hbs, ← hat]; exact hm)).mono fun _ _ hp => outD_fr (framesF_length _ _ _).symm (by rw [hbs, hat]; exact hp)⟩
          · have hend : s.at' + j = segs s.bs := by omega
            exact ⟨{ s with at' := s.at' + j, ends := true }, { d with at' := d.at' + j, wait := 2 }, [endF s.bs], ⟨hbs, .inr (.inr (.inl ⟨hb, hd, rfl, hc, rfl, hdc⟩))⟩, rfl, rfl, rfl, rfl, by simp, fun w g hs => (Feed_end hs hb hd he j k (F 3) (F 4) (F 5) (F 6) (F 7) hjm (by omega) (by omega) (by omega) hend).mono fun _ _ hp => outS_fr rfl hp, fun w g hd' => (DFeed_end hd' hw j k (F 3) (F 4) (F 5) (F 6) (F 7) (by rw [← hmy]; exact hjm) (by omega) (by omega) (by omega) (by rw [← hbs, ← hat]; exact hend)).mono fun _ _ hp => outD_fr rfl (by rw [hbs]; exact hp)⟩
    · exact ⟨{ s with done := true, code := 84148225 }, { d with wait := 3, code := 84148225 }, [abF 84148225], ⟨hbs, .inr (.inr (.inr ⟨hb, rfl, rfl, rfl⟩))⟩, rfl, rfl, rfl, rfl, by decide, fun w g hs => (Feed_no hs hb hd F hF h4 (.inr ⟨he, h162⟩)).mono fun _ _ hp => outS_fr rfl hp, fun w g hd' => (DFeed_no hd' F hF h4 (.inr ⟨hw, h162⟩)).mono fun _ _ hp => outD_fr rfl hp⟩
  · obtain ⟨hb, hd, he, hc, hw, hdc⟩ := h2
    by_cases h4 : F 0 / 32 = 4
    · exact ⟨{ s with done := true, code := numF F }, { d with wait := 3, code := numF F }, [], ⟨hbs, .inr (.inr (.inr ⟨hb, rfl, rfl, rfl⟩))⟩, rfl, rfl, rfl, rfl, by decide, fun w g hs => (Feed_abort hs hb hd F hF h4).mono fun _ _ hp => outS_nil hp, fun w g hd' => (DFeed_abort hd' (.inr hw) F hF h4).mono fun _ _ hp => outD_nil hp⟩
    by_cases h161 : F 0 = 161
    · have hag : aggF F = .agg #[.int .u8 161, .int .u8 (F 1), .int .u8 (F 2), .int .u8 (F 3), .int .u8 (F 4), .int .u8 (F 5), .int .u8 (F 6), .int .u8 (F 7)] := by
        unfold aggF
        rw [h161]
      exact ⟨{ s with done := true }, { d with wait := 3 }, [], ⟨hbs, .inr (.inr (.inr ⟨hb, rfl, rfl, by show s.code = d.code; rw [hc, hdc]⟩))⟩, rfl, rfl, rfl, rfl, by decide, fun w g hs => (by rw [hag]; exact (Feed_taken hs hb hd he _ _ _ _ _ _ _).mono fun _ _ hp => outS_nil hp), fun w g hd' => (DFeed_taken hd' hw F h161).mono fun _ _ hp => outD_nil hp⟩
    · exact ⟨{ s with done := true, code := 84148225 }, { d with wait := 3, code := 84148225 }, [abF 84148225], ⟨hbs, .inr (.inr (.inr ⟨hb, rfl, rfl, rfl⟩))⟩, rfl, rfl, rfl, rfl, by decide, fun w g hs => (Feed_no hs hb hd F hF h4 (.inl ⟨he, h161⟩)).mono fun _ _ hp => outS_fr rfl hp, fun w g hd' => (DFeed_no hd' F hF h4 (.inl ⟨hw, h161⟩)).mono fun _ _ hp => outD_fr rfl hp⟩
  · exact ⟨s, d, [], ⟨hbs, .inr (.inr (.inr h3))⟩, rfl, rfl, rfl, rfl, by decide, fun w g hs => (Feed_deaf hs (.inr h3.2.1) F).mono fun _ _ hp => outS_nil hp, fun w g hd => (DFeed_deaf hd (.inr h3.2.2.1) F).mono fun _ _ hp => outD_nil hp⟩
end Go.Proofs.Ytdmomhbimhggiaa.Block
