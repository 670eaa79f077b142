/- What slices.Concat of two rows, a head and the next counter come to. -/
import Derived.Test.YtgegpeicpbhnkaaNvmA
import Derived.Lib.AppendZeros
namespace Go.Proofs.Ytgegpeicpbhnkaa.Nvm
open Go.RowKit Go.Proofs.Ytgegpeicpbhnkaa.Own Go.Proofs.Ytgegpeicpbhnkaa.Crc
theorem under22 : Try.prog.underlying 22 = some (.slice 5) := by kernel_rfl
theorem under5 : Try.prog.underlying 5 = some (.int .u8) := by kernel_rfl
theorem under9 : Try.prog.underlying 9 = some .string := by kernel_rfl
theorem under3 : Try.prog.underlying 3 = some (.int .i64) := by kernel_rfl
theorem info5 : (Try.prog.info? 5).map (fun i => (i.zero, i.size, i.bytes)) = some (some (.int .u8 0), 1, 1) := by kernel_rfl
theorem Grow_nil {w : World} (n : Nat) (hn : n ≤ 140737488355328) :
    Calls Try.prog 40 #[.slice none 0 0, .int .i64 n] w fun e w' => ∃ v, e = .returned v ∧ w'.ownsRow w.heap.size 5 1 v 0 [] ∧ Keep Zero w w' := by
  obtain ⟨i, hi0, hz, hsize, hby⟩ := info_parts info5
  rcases Nat.eq_zero_or_pos n with rfl | h0
  · clear hi0 hz hsize hby
    go_enter Try.func40, Try.ntmps40
    go_wp2
    go_ret
    exact ⟨_, rfl, own_nil _ _ _ _, Keep.refl _ _⟩
  · have hrz : ∀ ty, (Builtin.append_ #[22, 3] ty #[.slice none 0 0, .int .i64 n]).run Try.prog w = _ := fun ty => Lib.run_append_nil_zeros w 22 3 ty 5 i (.int .u8 0) .i64 .i64 under22 under3 hi0 hz n h0 (by omega) (by omega) (by rw [hby]; omega)
    have hG := grownCap_ge w n 0 5
    have hG2 := grownCap_le_maxLen w n 0 5 (by unfold maxLen; omega)
    obtain ⟨G, hg⟩ : ∃ G, G = grownCap w n 0 5 := ⟨_, rfl⟩
    rw [← hg] at hrz hG hG2
    have hpos : (0 : Int) < (n : Int) := by omega
    have HR := Lib.hid hrz
    have HG := Lib.hid (And.intro hG hG2)
    clear hrz hi0 hz hsize hby hg hG hG2
    go_enter Try.func40, Try.ntmps40
    go_wp2_with (at_builtin; refine Lib.wpList_append_run _ rfl _ _ _ _ rfl _ _ rfl rfl _ _ (HR.out _) ?_)
    go_ret
    refine ⟨_, rfl, ⟨rfl, .inr ⟨w.heap.size, G, _, rfl, Nat.le_refl _, heap_alloc_new w.drew _, Nat.zero_le _, HG.out.2, ?_, by simp⟩⟩, ?_⟩
    · have := HG.out.1
      simp [Builtin.zeroCells]
      omega
    · exact ((Keep.refl Zero w).drew).alloc _
def ConcatPost (w : World) (xs : List Int) (e : Ending) (w' : World) : Prop := ∃ A c, e = .returned (.slice A xs.length c) ∧ Row w' A (ints .u8 xs) ∧ (A = none → c = 0) ∧ Keep Zero w w' ∧ ∀ a, A = some a → w.heap.size ≤ a.block
def sum2 (n m j : Nat) : Nat := if j = 0 then 0 else if j = 1 then n else n + m
set_option maxRecDepth 100000 in
set_option maxHeartbeats 4000000 in
theorem Concat_any {w : World} (b : Nat) (A B : Option Addr) (c d : Nat) (xs ys : List Int) (hb : Blk w b #[.slice A xs.length c, .slice B ys.length d] 22) (hx : Row w A (ints .u8 xs)) (hy : Row w B (ints .u8 ys)) (hA : A = none → c = 0) (hB : B = none → d = 0) (lx : xs.length ≤ 70368744177664) (ly : ys.length ≤ 70368744177664) :
    Calls Try.prog 35 #[.slice (some ⟨b, 0, none⟩) 2 2] w (ConcatPost w (xs ++ ys)) := by
  have HX := Lib.hid (And.intro hx hA)
  have HY := Lib.hid (And.intro hy hB)
  obtain ⟨n, hn⟩ : ∃ n, n = xs.length := ⟨_, rfl⟩
  obtain ⟨m, hm⟩ : ∃ m, m = ys.length := ⟨_, rfl⟩
  rw [← hn, ← hm] at hb
  rw [← hn] at lx
  rw [← hm] at ly
  have HN := Lib.hid (And.intro hn hm)
  have HBk := Lib.hid hb
  have c0 : w.cell? ⟨b, 0, none⟩ = some (.slice A n c) := hb.cell 0
  have c1 : w.cell? ⟨b, 1, none⟩ = some (.slice B m d) := hb.cell 1
  clear hx hy hA hB hn hm hb
  go_enter Try.func35, Try.ntmps35
  go_wp2_with fail
  go_loopg [3, 11] 2 (fun k s3 s11 wr => ∃ j : Nat, j ≤ 2 ∧ k = 2 - j ∧ s11 = .int .i64 j ∧ s3 = .int .i64 (sum2 n m j) ∧ w = wr)
  case atStart => exact ⟨0, by omega, rfl, rfl, rfl, rfl⟩
  case round =>
    obtain ⟨j, hj, hk, rfl, rfl, rfl⟩ := hrel
    have HM := Lib.hid hk
    clear hk
    by_cases h0 : j = 0
    · subst h0
      have e0 : sum2 n m 0 = 0 := rfl
      rw [e0]
      clear e0
      go_wp2_with fail
      go_roundg 1
      case measure => rw [HM.out]; omega
      case rel => exact ⟨1, by omega, rfl, rfl, rfl, rfl⟩
    by_cases h1 : j = 1
    · subst h1
      have e0 : sum2 n m 1 = n := rfl
      rw [e0]
      clear e0 h0
      go_wp2_with fail
      go_roundg 0
      case measure => rw [HM.out]; omega
      case rel => exact ⟨2, by omega, rfl, rfl, by
        have : sum2 n m 2 = n + m := rfl
        rw [this]
        go_num, rfl⟩
    obtain rfl : j = 2 := by omega
    have e0 : sum2 n m 2 = n + m := rfl
    rw [e0]
    clear e0 h0 h1
    go_wp2_with fail
    refine (Grow_nil (n + m) (by omega)).mono ?_
    rintro e w2 ⟨v, rfl, hown, hk⟩
    have HO2 := Lib.hid hown
    have HK2 := Lib.hid hk
    clear hown hk HM c0 c1
    go_wp2_with fail
    go_loopg [6, 27] 2 (fun k s6 s27 wr => ∃ (j : Nat) (zs : List Int), j ≤ 2 ∧ k = 2 - j ∧ s27 = .int .i64 j ∧ zs = (if j = 0 then [] else if j = 1 then xs else xs ++ ys) ∧ wr.ownsRow w.heap.size 5 1 s6 zs.length (ints .u8 zs) ∧ Keep Zero w wr)
    case atStart => exact ⟨0, [], by omega, rfl, rfl, rfl, HO2.out, HK2.out⟩
    case round =>
      obtain ⟨j, zs, hj, hk, rfl, hz, hown, hkp⟩ := hrel
      have HM := Lib.hid hk
      have HO := Lib.hid hown
      have HK := Lib.hid hkp
      clear hk hown hkp HO2 HK2
      have HB2 := Lib.hid (HBk.out.keep HK.out id)
      have c0 : wr.cell? ⟨b, 0, none⟩ = some (.slice A n c) := HB2.out.cell 0
      have c1 : wr.cell? ⟨b, 1, none⟩ = some (.slice B m d) := HB2.out.cell 1
      by_cases h0 : j = 0
      · subst h0
        obtain rfl : zs = [] := by simpa using hz
        clear hz
        go_wp2_with (at_builtin; refine app_own rfl (.tmp 31) (.tmp 32) 22 rfl w.heap.size 5 (.int .u8 0) 1 1 under22 info5 rfl (by decide) u6 0 [] rfl HO.out A n c (ints .u8 xs) rfl (by rw [ints_length, HN.out.1]; omega) HX.out.2 (HX.out.1.keep HK.out (fun _ _ _ => id)) (ints_one _ _) (by unfold maxLen; omega) (by omega) HK.out.size ?_; intro v' w3 hown3 hgr3)
        have HO3 : Hid (w3.ownsRow w.heap.size 5 1 v' xs.length (ints .u8 xs)) := Lib.hid (by
          have h := hown3
          rw [Nat.zero_add, List.nil_append, HN.out.1] at h
          exact h)
        have HK3 := Lib.hid (HK.out.grown hgr3 (fun k hk => .inr (own_block HO.out k hk)))
        clear hown3 hgr3
        go_wp2_with fail
        go_roundg 1
        case measure => rw [HM.out]; omega
        case rel => exact ⟨1, xs, by omega, rfl, rfl, by simp, HO3.out, HK3.out⟩
      by_cases h1 : j = 1
      · subst h1
        obtain rfl : zs = xs := by simpa using hz
        clear hz h0
        go_wp2_with (at_builtin; refine app_own rfl (.tmp 31) (.tmp 32) 22 rfl w.heap.size 5 (.int .u8 0) 1 1 under22 info5 rfl (by decide) u6 zs.length (ints .u8 zs) rfl HO.out B m d (ints .u8 ys) rfl (by rw [ints_length, HN.out.2]; omega) HY.out.2 (HY.out.1.keep HK.out (fun _ _ _ => id)) (ints_one _ _) (by have := HN.out.1; unfold maxLen; omega) (by have := HN.out.1; omega) HK.out.size ?_; intro v' w3 hown3 hgr3)
        have HO3 : Hid (w3.ownsRow w.heap.size 5 1 v' (zs ++ ys).length (ints .u8 (zs ++ ys))) := Lib.hid (by
          have h := hown3
          rw [HN.out.2, ← List.length_append, ← ints_append] at h
          exact h)
        have HK3 := Lib.hid (HK.out.grown hgr3 (fun k hk => .inr (own_block HO.out k hk)))
        clear hown3 hgr3
        go_wp2_with fail
        go_roundg 0
        case measure => rw [HM.out]; omega
        case rel => exact ⟨2, zs ++ ys, by omega, rfl, rfl, by simp, HO3.out, HK3.out⟩
      obtain rfl : j = 2 := by omega
      obtain rfl : zs = xs ++ ys := by simpa using hz
      clear hz h0 h1
      go_wp2_with fail
      go_ret
      obtain ⟨A', c', rfl, hr, hc, hm, hb⟩ := Row.own HO.out
      refine ⟨A', c', rfl, hr, ?_, HK.out, hb⟩
      intro hA
      subst hA
      obtain ⟨_, ⟨hv, _⟩ | ⟨g, cap, cur, hv, _⟩⟩ := HO.out
      · simp only [Value.slice.injEq] at hv
        exact hv.2.2
      · simp at hv
/-- The next counter. -/
def nxt (n : Int) : Int := if n = 65535 then 1 else n + 1
theorem next_any (n : Int) (n0 : 0 ≤ n) (n1 : n ≤ 65535) (w : World) : Calls Try.prog 23 #[.int .i64 n] w fun e w' => e = .returned (.int .i64 (nxt n)) ∧ w = w' := by
  by_cases h : n = 65535
  · have b1 : (n == 65535) = true := by simp [h]
    have E : Hid (nxt n = 1) := Lib.hid (if_pos h)
    clear h
    go_enter Try.func23, Try.ntmps23
    go_wp2
    go_ret
    rw [E.out]
    exact ⟨rfl, rfl⟩
  · have b1 : (n == 65535) = false := by simp [h]
    have E : Hid (nxt n = n + 1) := Lib.hid (if_neg h)
    clear h
    go_enter Try.func23, Try.ntmps23
    go_wp2
    go_ret
    rw [E.out]
    exact ⟨rfl, rfl⟩
/-- A head's bytes. -/
def headL (c n : Int) : List Int := [c % 256, c / 256, n % 256, n / 256 % 256, n / 65536 % 256, n / 16777216 % 256]
theorem head_any (c n : Int) (c0 : 0 ≤ c) (c1 : c ≤ 65535) (_n0 : 0 ≤ n) (w : World) :
    Calls Try.prog 33 #[.int .i64 c, .int .i64 n] w fun e w' => e = .returned (.slice (some ⟨w.heap.size, 0, none⟩) 6 6) ∧ w' = w.alloc (.cells (ints .u8 (headL c n)).toArray 5) := by
  go_enter Try.func33, Try.ntmps33
  go_wp2
  go_ret
  exact ⟨rfl, rfl⟩
end Go.Proofs.Ytgegpeicpbhnkaa.Nvm
