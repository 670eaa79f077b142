/- The document's sum of a half. -/
import Derived.Test.YtgegpeicpbhnkaaNvmG
import Derived.Test.YtgegpeicpbhnkaaNvmJ
import Derived.Test.YtgegpeicpbhnkaaNvmL
namespace Go.Proofs.Ytgegpeicpbhnkaa.Nvm
open Go.RowKit Go.Proofs.Ytgegpeicpbhnkaa.Own Go.Proofs.Ytgegpeicpbhnkaa.Crc
theorem six_own {w : World} {q : Nat} {x0 x1 x2 x3 x4 x5 : Int} (h : Blk w q #[.int .u8 x0, .int .u8 x1, .int .u8 x2, .int .u8 x3, .int .u8 x4, .int .u8 x5] 5) : w.ownsRow q 5 1 (.slice (some ⟨q, 0, none⟩) 6 6) 6 (ints .u8 [x0, x1, x2, x3, x4, x5]) :=
  ⟨rfl, .inr ⟨q, 6, _, rfl, Nat.le_refl _, h, Nat.le_refl _, by decide, rfl, rfl⟩⟩
set_option maxHeartbeats 2000000 in
theorem DSum_any {w : World} (k n : Nat) (hk : k ≤ 65535) (hn : n ≤ 4294967295) (A : Option Addr) (c : Nat) (xs : List Int) (hr : Row w A (ints .u8 xs)) (hnil : A = none → c = 0) (hb : ∀ x ∈ xs, 0 ≤ x ∧ x ≤ 255) (hl : xs.length ≤ 1000000) :
    Calls Try.prog 38 #[.int .i64 k, .int .i64 n, .slice A xs.length c] w fun e w' => e = .returned (.int .u16 (crc (headL k n ++ xs))) ∧ Hid (Keep Zero w w') := by
  have HB := Lib.hid hb
  have HNil := Lib.hid hnil
  obtain ⟨L, hL⟩ : ∃ L, L = xs.length := ⟨_, rfl⟩
  have HL := Lib.hid hL
  rw [← hL] at hl ⊢
  have HR := Lib.hid hr
  have t1 : (k : Int).tmod 256 = (k : Int) % 256 := Int.tmod_eq_emod_of_nonneg (by omega)
  have t2 : (k : Int).tdiv 256 = (k : Int) / 256 := Int.tdiv_eq_ediv_of_nonneg (by omega)
  have t3 : (n : Int).tmod 256 = (n : Int) % 256 := Int.tmod_eq_emod_of_nonneg (by omega)
  have t4 : (n : Int).tdiv 256 = (n : Int) / 256 := Int.tdiv_eq_ediv_of_nonneg (by omega)
  have t5 : (n : Int).tdiv 65536 = (n : Int) / 65536 := Int.tdiv_eq_ediv_of_nonneg (by omega)
  have t6 : (n : Int).tdiv 16777216 = (n : Int) / 16777216 := Int.tdiv_eq_ediv_of_nonneg (by omega)
  have t7 : ((n : Int) / 256).tmod 256 = (n : Int) / 256 % 256 := Int.tmod_eq_emod_of_nonneg (by omega)
  have t8 : ((n : Int) / 65536).tmod 256 = (n : Int) / 65536 % 256 := Int.tmod_eq_emod_of_nonneg (by omega)
  have u1 : IntKind.u8.wrap ((k : Int) % 256) = (k : Int) % 256 := by rw [IntKind.wrap_u8']; omega
  have u2 : IntKind.u8.wrap ((k : Int) / 256) = (k : Int) / 256 := by rw [IntKind.wrap_u8']; omega
  have u3 : IntKind.u8.wrap ((n : Int) % 256) = (n : Int) % 256 := by rw [IntKind.wrap_u8']; omega
  have u4 : IntKind.u8.wrap ((n : Int) / 256 % 256) = (n : Int) / 256 % 256 := by rw [IntKind.wrap_u8']; omega
  have u5 : IntKind.u8.wrap ((n : Int) / 65536 % 256) = (n : Int) / 65536 % 256 := by rw [IntKind.wrap_u8']; omega
  have u6 : IntKind.u8.wrap ((n : Int) / 16777216) = (n : Int) / 16777216 % 256 := IntKind.wrap_u8' _
  clear hr hb hnil hL
  have HRa : Hid (∀ o, Row (w.alloc o) A (ints .u8 xs)) := Lib.hid (fun o => HR.out.keep ((Keep.refl Zero w).alloc o) (fun _ _ _ => id))
  go_enter Try.func38, Try.ntmps38
  go_wp2_with (at_builtin; refine app_own rfl (.tmp 29) (.tmp 30) 22 rfl w.heap.size 5 (.int .u8 0) 1 1 under22 info5 rfl (by decide) (.slice (some ⟨w.heap.size, 0, none⟩) 6 6) 6 (ints .u8 [(k : Int) % 256, (k : Int) / 256, (n : Int) % 256, (n : Int) / 256 % 256, (n : Int) / 65536 % 256, (n : Int) / 16777216 % 256]) rfl (six_own (Blk.new w _ _)) A L c (ints .u8 xs) rfl (by rw [ints_length, HL.out]; omega) HNil.out (HRa.out _) (ints_one _ _) (by unfold maxLen; omega) (by omega) (by simp) ?_; intro v2 w2 hown2 hgr2)
  have HO2 : Hid (w2.ownsRow w.heap.size 5 1 v2 (6 + L) (ints .u8 (headL k n ++ xs))) := Lib.hid (by rw [ints_append]; exact hown2)
  have HK2 : Hid (Keep Zero w w2) := Lib.hid (((Keep.refl Zero w).alloc _).grown hgr2 (fun k hk => .inr (by cases hk; exact Nat.le_refl _)))
  clear hown2 hgr2
  obtain ⟨A2, c2, rfl, hr2, hc2, _, _⟩ := Row.own HO2.out
  have HR2 := Lib.hid hr2
  have HL2 : Hid (6 + L = (headL k n ++ xs).length) := Lib.hid (by rw [List.length_append, ← HL.out]; rfl)
  clear hr2
  go_wp2_with fail
  rw [HL2.out]
  refine (RCRC16_any A2 c2 (headL k n ++ xs) HR2.out (fun x hx => ?_) (by rw [← HL2.out]; omega)).mono ?_
  · rcases List.mem_append.1 hx with h | h
    · unfold headL at h
      simp only [List.mem_cons, List.not_mem_nil, or_false] at h
      omega
    · exact HB.out x h
  rintro e w' ⟨rfl, rfl⟩
  go_wp2_with fail
  go_ret
  exact ⟨rfl, HK2⟩
end Go.Proofs.Ytgegpeicpbhnkaa.Nvm
