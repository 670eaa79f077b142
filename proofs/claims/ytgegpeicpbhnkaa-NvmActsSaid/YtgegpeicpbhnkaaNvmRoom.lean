/- NvmRoom's walk. -/
import Derived.Test.YtgegpeicpbhnkaaNvmS
namespace Go.Proofs.Ytgegpeicpbhnkaa.Nvm
open Go.RowKit Go.Proofs.Ytgegpeicpbhnkaa.Own Go.Proofs.Ytgegpeicpbhnkaa.Crc
theorem own_src {w : World} {base n : Nat} {v : Value} {xs : List Int} (h : w.ownsRow base 5 1 v n (ints .u8 xs)) (hn : n = xs.length) (g pg : Nat) (hg : g < base) (hp : pg < base) : ∃ A d, v = .slice A xs.length d ∧ Src w g pg A d xs := by
  subst hn
  obtain ⟨A, c, rfl, hr, hc, hm, hb⟩ := Row.own h
  refine ⟨A, c, rfl, hr, hc, ?_, fun a ha e => ?_⟩
  · intro hA
    subst hA
    obtain ⟨_, ⟨hv, _⟩ | ⟨_, cap, cur, hv, _⟩⟩ := h
    · simp only [Value.slice.injEq] at hv
      exact hv.2.2
    · simp at hv
  · have := hb a ha
    rcases e with e | e <;> omega
/-- A slice of bytes that came in. -/
structure In (w : World) (A : Option Addr) (c : Nat) (xs : List Int) : Prop where
  row : Row w A (ints .u8 xs)
  nil : A = none → c = 0
  byte : ∀ x ∈ xs, 0 ≤ x ∧ x ≤ 255
  big : xs.length ≤ 140737488355328
set_option maxRecDepth 100000 in
set_option maxHeartbeats 8000000 in
theorem room_walk (q : Int) (q0 : 0 ≤ q) (q1 : q ≤ 255) (A : Option Addr) (c : Nat) (xs : List Int) (w : World) (h : In w A c xs) :
    Calls Try.prog 3 #[.int .u8 q, .slice A xs.length c] w fun e w' => e = .returned (.bool true) ∧ Keep Zero w w' := by
  have HI := Lib.hid h
  obtain ⟨n, hn⟩ : ∃ n : Nat, (n : Int) = 4 + q := ⟨(4 + q).toNat, by omega⟩
  have n0 : 4 ≤ n := by omega
  have n1 : n ≤ 300 := by omega
  have HN := Lib.hid hn
  obtain ⟨l, hl⟩ : ∃ l, l = xs.length := ⟨_, rfl⟩
  have HL := Lib.hid hl
  have lb : l ≤ 140737488355328 := by rw [hl]; exact h.big
  rw [← hl]
  clear h hn hl
  go_enter Try.func3, Try.ntmps3
  go_wp2_with fail
  rw [← HN.out]
  refine (New_ok n n0 (by omega) _).mono ?_
  rintro e w1 ⟨g, pg, rfl, hc, hg, hpg, hk⟩
  have HC1 := Lib.hid hc
  have HK1 := Lib.hid hk
  have HG := Lib.hid (And.intro hg hpg)
  have hgl := hc.chip.lt
  have hpl : pg < w1.heap.size := hc.pages.lt
  have HLt := Lib.hid (And.intro hgl hpl)
  have HR1 : Hid (Row (w1.alloc (.cells #[] 5)) A (ints .u8 xs)) := Lib.hid (HI.out.row.keep (hk.alloc (.cells #[] 5)) (fun _ _ _ => id))
  clear hc hk hg hpg hgl hpl
  go_wp2_with (at_builtin; refine app_own rfl (.tmp 24) (.tmp 25) 22 rfl w1.heap.size 5 (.int .u8 0) 1 1 under22 info5 rfl (by decide) (.slice (some ⟨w1.heap.size, 0, none⟩) 0 0) 0 [] rfl (own_empty 1 (Blk.new w1 _ _)) A l c (ints .u8 xs) rfl (by rw [ints_length, HL.out]; omega) HI.out.nil HR1.out (ints_one _ _) (by unfold maxLen; omega) (by omega) (by simp) ?_; intro v2 w2 hown2 hgr2)
  have HC2 : Hid (IsCh w2 g (Ch.new pg n)) := Lib.hid (IsCh.keep (S := Own.One w1.heap.size) HC1.out (((Keep.refl (Own.One w1.heap.size) w1).alloc _).grown hgr2 (fun k hk => .inl (by simpa [Value.ownBlock, Own.One] using hk.symm))) (fun e => by have := HLt.out.1; have e' : g = w1.heap.size := e; omega) (fun e => by have := HLt.out.2; have e' : pg = w1.heap.size := e; omega))
  have HK2 : Hid (Keep Zero w w2) := Lib.hid ((HK1.out.alloc _).grown hgr2 (fun k hk => .inr (by have := HK1.out.size; simp [Value.ownBlock] at hk; omega)))
  rw [Nat.zero_add, List.nil_append] at hown2
  obtain ⟨A2, d2, rfl, hs2⟩ := own_src hown2 HL.out g pg HLt.out.1 HLt.out.2
  have HS2 := Lib.hid hs2
  clear hown2 hgr2 hs2
  by_cases hf : (xs.length : Int) ≤ 8 * ((n : Int) / 2 - 1)
  · have HF := Lib.hid hf
    have hfl : ¬ 8 * ((n : Int) / 2 - 1) < (l : Int) := by have := HL.out; omega
    clear hf
    go_wp2_with fail
    refine (Save_l HC2.out rfl (by simp [Ch.new]) A2 d2 xs HS2.out HI.out.byte HF.out [] 0 (kept_fresh pg n)).mono ?_
    rintro e w3 ⟨rfl, P3, hp⟩
    have HC3 : Hid (IsCh w3 g ⟨pg, n, P3, -1, false⟩) := Lib.hid hp.out.1
    have HKp3 : Hid (Kept ⟨pg, n, P3, -1, false⟩ xs 1) := Lib.hid hp.out.2.1
    have HK3 : Hid (Keep Zero w w3) := Lib.hid (HK2.out.trans hp.out.2.2 (far_chip HG.out.1 HG.out.2))
    clear hp
    go_wp2_with fail
    refine (Load_k HC3.out xs 1 HKp3.out).mono ?_
    rintro e w4 ⟨A4, d4, rfl, hp⟩
    have HC4 := Lib.hid (HC3.out.keep hp.out.2.2.2.1 id id)
    have HK4 := Lib.hid (HK3.out.trans hp.out.2.2.2.1 (fun i hi => hi.elim))
    have r1 : Sem.run Try.prog (convert 22 9 (.slice A4 l d4)) w4 = .ok (.string (str xs)) w4 := run_str under22 under5 under9 hp.out.1 l HL.out
    have r2 : Sem.run Try.prog (convert 22 9 (.slice A l c)) w4 = .ok (.string (str xs)) w4 := run_str under22 under5 under9 (HI.out.row.keep HK4.out (fun _ _ _ => id)) l HL.out
    rw [← HL.out]
    clear hp
    go_wp2_with (first | ((with_reducible refine (Room_any HC4.out).mono ?_); rintro e w' ⟨rfl, rfl⟩) | ((with_reducible refine (lives_any _).mono ?_); rintro e w' ⟨rfl, hk⟩))
    go_ret
    rename_i hk
    exact ⟨rfl, HK4.out.trans hk.out (fun i hi => hi.elim)⟩
  · have HF : Hid (¬ fits (Ch.new pg n) xs) := Lib.hid hf
    have hfl : 8 * ((n : Int) / 2 - 1) < (l : Int) := by have := HL.out; omega
    clear hf
    go_wp2_with fail
    refine (Save_long HC2.out A2 d2 xs HS2.out HI.out.byte HI.out.big HF.out).mono ?_
    rintro e w3 ⟨rfl, hp⟩
    have HC3 : Hid (IsCh w3 g (Ch.new pg n)) := Lib.hid hp.out.1
    have HK3 : Hid (Keep Zero w w3) := Lib.hid (HK2.out.trans hp.out.2 (far_chip HG.out.1 HG.out.2))
    clear hp
    go_wp2_with fail
    refine (Load_k HC3.out [] 0 (kept_fresh pg n)).mono ?_
    rintro e w4 ⟨A4, d4, rfl, hp⟩
    have HC4 := Lib.hid (HC3.out.keep hp.out.2.2.2.1 id id)
    have HK4 := Lib.hid (HK3.out.trans hp.out.2.2.2.1 (fun i hi => hi.elim))
    have hcn : (Ch.new pg n).n = n := rfl
    clear hp
    go_wp2_with (first | ((with_reducible refine (Room_any HC4.out).mono ?_); rintro e w' ⟨rfl, rfl⟩) | ((with_reducible refine (lives_any _).mono ?_); rintro e w' ⟨rfl, hk⟩))
    go_ret
    rename_i hk
    exact ⟨rfl, HK4.out.trans hk.out (fun i hi => hi.elim)⟩
end Go.Proofs.Ytgegpeicpbhnkaa.Nvm
