/- Save and Load in the words of what is kept; that nvm lives. -/
import Derived.Test.YtgegpeicpbhnkaaNvmR
import Derived.Lib.SlBytesConst
namespace Go.Proofs.Ytgegpeicpbhnkaa.Nvm
open Go.RowKit Go.Proofs.Ytgegpeicpbhnkaa.Own Go.Proofs.Ytgegpeicpbhnkaa.Crc
/-- What is kept is xs, under the counter k. -/
def Kept (c : Ch) (xs : List Int) (k : Int) : Prop := (keptF c.P c.n).1 = xs ∧ (keptF c.P c.n).2.1 = k
def fits (c : Ch) (xs : List Int) : Prop := (xs.length : Int) ≤ 8 * ((c.n : Int) / 2 - 1)
def Saved (w : World) (g : Nat) (c : Ch) (r : Int) (xs : List Int) (k : Int) (left : Int) (dead : Bool) (e : Ending) (w' : World) : Prop :=
  e = .returned (.int .i64 r) ∧ ∃ P, Hid (IsCh w' g ⟨c.pg, c.n, P, left, dead⟩ ∧ Kept ⟨c.pg, c.n, P, left, dead⟩ xs k ∧ Keep (Chp g c.pg) w w')
theorem Save_l {w : World} {g : Nat} {c : Ch} (h : IsCh w g c) (hd : c.dead = false) (hl : c.left < 0) (A : Option Addr) (d : Nat) (xs : List Int) (hx : Src w g c.pg A d xs) (hb : ∀ x ∈ xs, 0 ≤ x ∧ x ≤ 255) (hf : fits c xs) (ys : List Int) (k : Int) (hk : Kept c ys k) :
    Calls Try.prog 9 #[.pointer (some ⟨g, 0, none⟩), .slice A xs.length d] w (Saved w g c 0 xs (nxt k) c.left false) := by
  have n1 := h.n1
  obtain ⟨P, p1, p2, p3⟩ := save_live ⟨hd, hl⟩ h.n0 h.n1 h.wf xs hb hf
  refine (Save_any h A d xs hx hb (by unfold fits at hf; omega)).mono ?_
  rintro e w' ⟨he, hp⟩
  rw [p1] at he hp
  have hp := hp.out
  simp only [hd] at hp
  refine ⟨he, P, hp.1, ⟨p2, ?_⟩, hp.2.1⟩
  show (keptF P c.n).2.1 = _
  rw [p3, hk.2]
theorem Save_goes {w : World} {g : Nat} {c : Ch} (h : IsCh w g c) (hd : c.dead = false) (A : Option Addr) (d : Nat) (xs : List Int) (hx : Src w g c.pg A d xs) (hb : ∀ x ∈ xs, 0 ≤ x ∧ x ≤ 255) (hf : fits c xs) (hl : 2 + (pagesOf xs : Int) ≤ c.left) (ys : List Int) (k : Int) (hk : Kept c ys k) :
    Calls Try.prog 9 #[.pointer (some ⟨g, 0, none⟩), .slice A xs.length d] w (Saved w g c 0 xs (nxt k) (c.left - (2 + pagesOf xs)) false) := by
  have n1 := h.n1
  obtain ⟨P, p1, p2, p3⟩ := save_goes hd h.n0 h.n1 h.wf xs hb hf hl
  refine (Save_any h A d xs hx hb (by unfold fits at hf; omega)).mono ?_
  rintro e w' ⟨he, hp⟩
  rw [p1] at he hp
  have hp := hp.out
  simp only [hd] at hp
  refine ⟨he, P, hp.1, ⟨p2, ?_⟩, hp.2.1⟩
  show (keptF P c.n).2.1 = _
  rw [p3, hk.2]
theorem Save_gone {w : World} {g : Nat} {c : Ch} (h : IsCh w g c) (hd : c.dead = false) (h0 : 0 ≤ c.left) (A : Option Addr) (d : Nat) (xs : List Int) (hx : Src w g c.pg A d xs) (hb : ∀ x ∈ xs, 0 ≤ x ∧ x ≤ 255) (hf : fits c xs) (hl : c.left < 2 + (pagesOf xs : Int)) (ys : List Int) (k : Int) (hk : Kept c ys k) :
    Calls Try.prog 9 #[.pointer (some ⟨g, 0, none⟩), .slice A xs.length d] w (Saved w g c 6 ys k (-1) true) := by
  have n1 := h.n1
  obtain ⟨P, p1, p2, p3⟩ := save_gone hd h0 h.n0 h.wf xs hf hl
  refine (Save_any h A d xs hx hb (by unfold fits at hf; omega)).mono ?_
  rintro e w' ⟨he, hp⟩
  rw [p1] at he hp
  have hp := hp.out
  refine ⟨he, P, hp.1, ⟨?_, ?_⟩, hp.2.1⟩
  · show (keptF P c.n).1 = _
    rw [p2, hk.1]
  · show (keptF P c.n).2.1 = _
    rw [p3, hk.2]
theorem Save_long {w : World} {g : Nat} {c : Ch} (h : IsCh w g c) (A : Option Addr) (d : Nat) (xs : List Int) (hx : Src w g c.pg A d xs) (hb : ∀ x ∈ xs, 0 ≤ x ∧ x ≤ 255) (hbig : xs.length ≤ 140737488355328) (hf : ¬ fits c xs) :
    Calls Try.prog 9 #[.pointer (some ⟨g, 0, none⟩), .slice A xs.length d] w fun e w' => e = .returned (.int .i64 2) ∧ Hid (IsCh w' g c ∧ Keep (Chp g c.pg) w w') := by
  refine (Save_any h A d xs hx hb hbig).mono ?_
  rintro e w' ⟨he, hp⟩
  have hs : saveF c xs = (2, c) := by
    unfold saveF
    unfold fits at hf
    rw [if_pos (by omega)]
  rw [hs] at he hp
  exact ⟨he, hp.out.1, hp.out.2.1⟩
def Loaded (w : World) (xs : List Int) (k : Int) (e : Ending) (w' : World) : Prop := ∃ A c, e = .returned (.tuple #[.slice A xs.length c, .bool (decide (0 < k))]) ∧ Hid (Row w' A (ints .u8 xs) ∧ xs.length ≤ c ∧ (A = none → c = 0) ∧ Keep Zero w w' ∧ ∀ a, A = some a → w.heap.size ≤ a.block)
theorem Load_k {w : World} {g : Nat} {c : Ch} (h : IsCh w g c) (xs : List Int) (k : Int) (hk : Kept c xs k) : Calls Try.prog 10 #[.pointer (some ⟨g, 0, none⟩)] w (Loaded w xs k) := by
  refine (Load_any h).mono ?_
  rintro e w' hp
  unfold LoadPost at hp
  rw [hk.1, hk.2] at hp
  obtain ⟨A, c, he, hp⟩ := hp
  exact ⟨A, c, he, hp⟩
theorem kept_fresh (pg n : Nat) : Kept (Ch.new pg n) [] 0 := by
  have h : ∀ f, holdsF (Ch.new pg n).P f (n / 2) = ([], 0) := fun f => holdsF_none rfl rfl
  have hn : (Ch.new pg n).n = n := rfl
  unfold Kept keptF
  rw [hn, h, h]
  simp
theorem far_chip {w : World} {g pg : Nat} (h1 : w.heap.size ≤ g) (h2 : w.heap.size ≤ pg) : ∀ i, Chp g pg i → Zero i ∨ w.heap.size ≤ i := by
  rintro i (rfl | rfl)
  · exact .inr h1
  · exact .inr h2
theorem str_a : ByteArray.mk #[97] = str [97] := by decide +kernel
set_option maxRecDepth 100000 in
set_option maxHeartbeats 8000000 in
theorem lives_any (w : World) : Calls Try.prog 12 #[] w fun e w' => e = .returned (.bool true) ∧ Hid (Keep Zero w w') := by
  have kc := fun (w : World) (C : Array Value) (n c : Nat) => Lib.run_convert_bytes_const (P := Try.prog) w 22 5 C n c under22 under5
  go_enter Try.func12, Try.ntmps12
  go_wp2_with fail
  refine (New_ok 4 (by decide) (by decide) _).mono ?_
  rintro e w1 ⟨g, pg, rfl, hc, hg, hpg, hk⟩
  have HC1 := Lib.hid hc
  have HK1 := Lib.hid hk
  have HG := Lib.hid (And.intro hg hpg)
  have hgl := hc.chip.lt
  have hpl : pg < w1.heap.size := hc.pages.lt
  have HL := Lib.hid (And.intro hgl hpl)
  clear hc hk hg hpg hgl hpl
  go_wp2_with fail
  have HS1 : Hid (Src (w1.alloc (.cells #[.int .u8 97] 5 (1, 2))) g pg (some ⟨w1.heap.size, 0, none⟩) 1 [97]) := Lib.hid ⟨fun i v hv => ⟨_, _, rfl, by simp, by
    rw [World.cell?_alloc_mark]
    simpa [ints] using hv⟩, by decide, (fun h => by cases h), fun a ha e => by
    cases ha
    have := HL.out
    rcases e with e | e <;> simp only at e <;> omega⟩
  have HC1a : Hid (IsCh (w1.alloc (.cells #[.int .u8 97] 5 (1, 2))) g (Ch.new pg 4)) := Lib.hid (HC1.out.keep ((Keep.refl Zero w1).alloc _) id id)
  have HK1a := Lib.hid (HK1.out.alloc (.cells #[.int .u8 97] 5 (1, 2)))
  refine (Save_l HC1a.out rfl (by simp [Ch.new]) (some ⟨w1.heap.size, 0, none⟩) 1 [97] HS1.out (by decide) (show (1 : Int) ≤ 8 * (((4 : Nat) : Int) / 2 - 1) by decide) [] 0 (kept_fresh pg 4)).mono ?_
  rintro e w2 ⟨rfl, P2, hp⟩
  have HC2 : Hid (IsCh w2 g ⟨pg, 4, P2, -1, false⟩) := Lib.hid hp.out.1
  have HKp2 : Hid (Kept ⟨pg, 4, P2, -1, false⟩ [97] 1) := Lib.hid hp.out.2.1
  have HK2 : Hid (Keep Zero w w2) := Lib.hid (HK1a.out.trans hp.out.2.2 (far_chip HG.out.1 HG.out.2))
  clear hp HS1 HC1a HK1a HC1 HK1
  go_wp2_with fail
  refine (Cut_any HC2.out 1 (by decide)).mono ?_
  rintro e w3 ⟨rfl, hc, hk⟩
  have HC3 : Hid (IsCh w3 g ⟨pg, 4, P2, 1, false⟩) := Lib.hid hc
  have HK3 := Lib.hid (HK2.out.trans hk (fun i hi => .inr (by have := HG.out; unfold Own.One at hi; omega)))
  clear hc hk HC2 HK2
  have HL3 : Hid (g < w3.heap.size ∧ pg < w3.heap.size) := Lib.hid ⟨HC3.out.chip.lt, HC3.out.pages.lt⟩
  go_wp2_with fail
  have HS3 : Hid (Src (w3.alloc (.cells #[.int .u8 98] 5 (1, 2))) g pg (some ⟨w3.heap.size, 0, none⟩) 1 [98]) := Lib.hid ⟨fun i v hv => ⟨_, _, rfl, by simp, by
    rw [World.cell?_alloc_mark]
    simpa [ints] using hv⟩, by decide, (fun h => by cases h), fun a ha e => by
    cases ha
    have := HL3.out
    rcases e with e | e <;> simp only at e <;> omega⟩
  have HC3a : Hid (IsCh (w3.alloc (.cells #[.int .u8 98] 5 (1, 2))) g ⟨pg, 4, P2, 1, false⟩) := Lib.hid (HC3.out.keep ((Keep.refl Zero w3).alloc _) id id)
  have HK3a := Lib.hid (HK3.out.alloc (.cells #[.int .u8 98] 5 (1, 2)))
  refine (Save_gone HC3a.out rfl (show (0 : Int) ≤ 1 by decide) (some ⟨w3.heap.size, 0, none⟩) 1 [98] HS3.out (by decide) (show (1 : Int) ≤ 8 * (((4 : Nat) : Int) / 2 - 1) by decide) (show (1 : Int) < 2 + ((pagesOf [98] : Nat) : Int) by decide) [97] 1 (by exact HKp2.out)).mono ?_
  rintro e w4 ⟨rfl, P4, hp⟩
  have HC4 : Hid (IsCh w4 g ⟨pg, 4, P4, -1, true⟩) := Lib.hid hp.out.1
  have HKp4 : Hid (Kept ⟨pg, 4, P4, -1, true⟩ [97] 1) := Lib.hid hp.out.2.1
  have HK4 : Hid (Keep Zero w w4) := Lib.hid (HK3a.out.trans hp.out.2.2 (far_chip HG.out.1 HG.out.2))
  clear hp HS3 HC3a HK3a HC3 HK3
  go_wp2_with fail
  refine (Load_k HC4.out [97] 1 HKp4.out).mono ?_
  rintro e w5 ⟨A, d, rfl, hp⟩
  have HC5 := Lib.hid (HC4.out.keep hp.out.2.2.2.1 id id)
  have HK5 := Lib.hid (HK4.out.trans hp.out.2.2.2.1 (fun i hi => hi.elim))
  have hrun : Sem.run Try.prog (convert 22 9 (.slice A 1 d)) w5 = .ok (.string (str [97])) w5 := run_str under22 under5 under9 hp.out.1 1 rfl
  rw [← str_a] at hrun
  clear hp
  go_wp2_with (first | ((with_reducible refine (Dead_any HC5.out).mono ?_); rintro e w' ⟨rfl, rfl⟩) | ((with_reducible refine (Room_any HC5.out).mono ?_); rintro e w' ⟨rfl, rfl⟩))
  go_ret
  exact ⟨rfl, HK5⟩
end Go.Proofs.Ytgegpeicpbhnkaa.Nvm
