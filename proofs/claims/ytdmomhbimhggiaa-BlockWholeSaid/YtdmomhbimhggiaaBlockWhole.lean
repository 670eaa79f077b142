/- BlockWhole: the law's walk. -/
import Derived.Test.YtdmomhbimhggiaaBlockJ
import Derived.Test.YtdmomhbimhggiaaBlockK
namespace Go.Proofs.Ytdmomhbimhggiaa.Block
open Go.RowKit Go.Proofs.Ytdmomhbimhggiaa.Own Go.Proofs.Ytdmomhbimhggiaa.Crc
set_option maxRecDepth 100000 in
set_option maxHeartbeats 2000000 in
theorem whole_walk (A B : Option Addr) (c d : Nat) (xs : List Int) (ls : List Bool) (sz : Int) (z0 : 0 ≤ sz) (z1 : sz ≤ 255) (w : World) (h : In w A c xs) (hB : Row w B (ls.map Value.bool)) :
    Calls Try.prog 5 #[.slice A xs.length c, .int .u8 sz, .slice B ls.length d] w fun e w' => e = .returned (.bool true) ∧ Keep Own.Zero w w' := by
  have HB := Lib.hid hB
  obtain ⟨K, hK⟩ : ∃ K, K = ls.length := ⟨_, rfl⟩
  have HKl := Lib.hid hK
  rw [← hK]
  obtain ⟨k, hk⟩ : ∃ k, k = 1 + sz.toNat % 127 := ⟨_, rfl⟩
  have k0 : 1 ≤ k := by omega
  have k1 : k ≤ 127 := by omega
  have hkk : 1 + sz % 127 = (k : Int) := by omega
  have hrm : sz.tmod 127 = sz % 127 := Int.tmod_eq_emod_of_nonneg z0
  clear hk
  have hlc := h.le
  obtain ⟨m, hm⟩ : ∃ m, m = xs.length := ⟨_, rfl⟩
  rw [← hm] at hlc ⊢
  by_cases hl : 3000 < m
  · have hl2 : (3000 : Int) < (m : Int) := by omega
    obtain ⟨ys, hys⟩ : ∃ ys, ys = xs.take 3000 := ⟨_, rfl⟩
    obtain ⟨n, hn⟩ : ∃ n : Nat, n = 3000 := ⟨_, rfl⟩
    have HI : Hid (In w A c ys) := Lib.hid (by rw [hys]; exact h.take 3000)
    have HN : Hid (n = ys.length) := Lib.hid (by rw [hys, List.length_take, hn]; omega)
    have hnb : n ≤ 3000 := by omega
    have hsl := fun X => slice22_h A m c n (by omega) hlc X
    have HHn : Hid (n = 3000) := Lib.hid hn
    have hsl' : ∀ X, Sem.run Try.prog (Instr.slice 22 (.slice A m c) none (some (.int .i64 3000)) none) X = .ok (.slice A n c) X := fun X => by
      have := hsl X
      rw [hn] at this ⊢
      exact this
    clear h hB hK hm hys hn hsl
    go_enter Try.func5, Try.ntmps5
    have HR1 : Hid (Row (w.alloc (.cells #[] 5)) A (ints .u8 ys)) := Lib.hid (HI.out.row.keep ((Keep.refl Own.Zero w).alloc (.cells #[] 5)) (fun _ _ _ => id))
    go_wp2_with (at_builtin; refine app_own rfl (.tmp 15) (.tmp 16) 22 rfl w.heap.size 5 (.int .u8 0) 1 1 under22 info5 rfl (by decide) (.slice (some ⟨w.heap.size, 0, none⟩) 0 0) 0 [] rfl (own_empty 1 (Blk.new w _ _)) A n c (ints .u8 ys) rfl (by rw [ints_length, HN.out]; omega) HI.out.nil HR1.out (ints_one _ _) (by unfold maxLen; omega) (by omega) (by simp) ?_; intro v2 w2 hown2 hgr2)
    have HO2 : Hid (w2.ownsRow w.heap.size 5 1 v2 n (ints .u8 ys)) := Lib.hid (by have h := hown2; rw [Nat.zero_add, List.nil_append] at h; exact h)
    have HK2 : Hid (Keep Own.Zero w w2) := Lib.hid (((Keep.refl Own.Zero w).alloc _).grown hgr2 (fun k hk => .inr (by cases hk; exact Nat.le_refl _)))
    clear hown2 hgr2
    obtain ⟨A2, c2, rfl, hi2, _⟩ := own_in HO2.out HN.out HI.out.byte
    have HI2 := Lib.hid hi2
    have HB2 : Hid (Row w2 B (ls.map Value.bool)) := Lib.hid (HB.out.keep HK2.out (fun _ _ _ => id))
    clear hi2
    go_wp2_with fail
    refine (goes_is HI2.out HN.out (by rw [← HN.out]; omega) k k0 k1 (d := d) HB2.out HKl.out).mono ?_
    rintro e w3 ⟨x, rfl, hx, hk3⟩
    have HK3 : Hid (Keep Own.Zero w w3) := Lib.hid (HK2.out.trans hk3.out (fun _ h => h.elim))
    have hx2 : (x : Int) ≤ (n : Int) / 7 + 1 := by
      have sb := segs_bound ys
      rw [← HN.out] at sb
      omega
    clear hk3 hx
    go_wp2_with ((with_reducible refine (lives_is _).mono ?_); rintro e w4 ⟨rfl, hk4⟩)
    go_ret
    exact ⟨rfl, HK3.out.trans hk4.out (fun _ h => h.elim)⟩
  · have hl2 : ¬ (3000 : Int) < (m : Int) := by omega
    obtain ⟨ys, hys⟩ : ∃ ys, ys = xs := ⟨_, rfl⟩
    obtain ⟨n, hn⟩ : ∃ n : Nat, n = m := ⟨_, rfl⟩
    have HI : Hid (In w A c ys) := Lib.hid (by rw [hys]; exact h)
    have HN : Hid (n = ys.length) := Lib.hid (by rw [hys, hn]; exact hm)
    rw [← hn] at hl2 ⊢
    have hnb : n ≤ 3000 := by omega
    clear h hB hK hm hys hn
    go_enter Try.func5, Try.ntmps5
    have HR1 : Hid (Row (w.alloc (.cells #[] 5)) A (ints .u8 ys)) := Lib.hid (HI.out.row.keep ((Keep.refl Own.Zero w).alloc (.cells #[] 5)) (fun _ _ _ => id))
    go_wp2_with (at_builtin; refine app_own rfl (.tmp 15) (.tmp 16) 22 rfl w.heap.size 5 (.int .u8 0) 1 1 under22 info5 rfl (by decide) (.slice (some ⟨w.heap.size, 0, none⟩) 0 0) 0 [] rfl (own_empty 1 (Blk.new w _ _)) A n c (ints .u8 ys) rfl (by rw [ints_length, HN.out]; omega) HI.out.nil HR1.out (ints_one _ _) (by unfold maxLen; omega) (by omega) (by simp) ?_; intro v2 w2 hown2 hgr2)
    have HO2 : Hid (w2.ownsRow w.heap.size 5 1 v2 n (ints .u8 ys)) := Lib.hid (by have h := hown2; rw [Nat.zero_add, List.nil_append] at h; exact h)
    have HK2 : Hid (Keep Own.Zero w w2) := Lib.hid (((Keep.refl Own.Zero w).alloc _).grown hgr2 (fun k hk => .inr (by cases hk; exact Nat.le_refl _)))
    clear hown2 hgr2
    obtain ⟨A2, c2, rfl, hi2, _⟩ := own_in HO2.out HN.out HI.out.byte
    have HI2 := Lib.hid hi2
    have HB2 : Hid (Row w2 B (ls.map Value.bool)) := Lib.hid (HB.out.keep HK2.out (fun _ _ _ => id))
    clear hi2
    go_wp2_with fail
    refine (goes_is HI2.out HN.out (by rw [← HN.out]; omega) k k0 k1 (d := d) HB2.out HKl.out).mono ?_
    rintro e w3 ⟨x, rfl, hx, hk3⟩
    have HK3 : Hid (Keep Own.Zero w w3) := Lib.hid (HK2.out.trans hk3.out (fun _ h => h.elim))
    have hx2 : (x : Int) ≤ (n : Int) / 7 + 1 := by
      have sb := segs_bound ys
      rw [← HN.out] at sb
      omega
    clear hk3 hx
    go_wp2_with ((with_reducible refine (lives_is _).mono ?_); rintro e w4 ⟨rfl, hk4⟩)
    go_ret
    exact ⟨rfl, HK3.out.trans hk4.out (fun _ h => h.elim)⟩
end Go.Proofs.Ytdmomhbimhggiaa.Block
