/- What CRC16 comes to. -/
import Derived.Test.YtgegpeicpbhnkaaOwn
import Derived.Test.YtgegpeicpbhnkaaCrc
namespace Go.Proofs.Ytgegpeicpbhnkaa.Nvm
open Go.RowKit Go.Proofs.Ytgegpeicpbhnkaa.Own Go.Proofs.Ytgegpeicpbhnkaa.Crc
set_option maxHeartbeats 4000000 in
theorem CRC16_any {w : World} (A : Option Addr) (c : Nat) (xs : List Int) (hr : Row w A (ints .u8 xs)) (hb : ∀ x ∈ xs, 0 ≤ x ∧ x ≤ 255) (hl : xs.length ≤ 1000000000000000) :
    Calls Try.prog 34 #[.slice A xs.length c] w fun e w' => e = .returned (.int .u16 (crc xs)) ∧ w = w' := by
  have HR := Lib.hid hr
  have HB := Lib.hid hb
  clear hr hb
  obtain ⟨n, hn⟩ : ∃ n, n = xs.length := ⟨_, rfl⟩
  have HN := Lib.hid hn
  rw [← hn]
  have hl2 : n ≤ 1000000000000000 := by omega
  clear hn hl
  go_enter Try.func34, Try.ntmps34
  go_wp2_with fail
  go_loopg [3, 8] n (fun k s3 s8 wr => ∃ j : Nat, j ≤ n ∧ k = n - j ∧ s8 = .int .i64 j ∧ s3 = .int .u16 (crc (xs.take j)) ∧ w = wr)
  case atStart => exact ⟨0, Nat.zero_le _, rfl, rfl, rfl, rfl⟩
  case round =>
    obtain ⟨j, hj, hk, rfl, rfl, rfl⟩ := hrel
    have HM := Lib.hid hk
    clear hk
    by_cases hlt : j < n
    · obtain ⟨x, hxj⟩ : ∃ x, xs[j]? = some x := ⟨xs[j]'(by rw [← HN.out]; exact hlt), List.getElem?_eq_getElem _⟩
      obtain ⟨b, o, rfl, lb, gb⟩ := HR.out j (.int .u8 x) (by rw [ints_get, hxj]; rfl)
      have HX := Lib.hid hxj
      obtain ⟨x0, x1⟩ := HB.out x (List.mem_of_getElem? hxj)
      have h1 : (j : Int) < (n : Int) := by omega
      have h0 : (0 : Int) ≤ (j : Int) := by omega
      obtain ⟨r, hr⟩ : ∃ r, r = crc (xs.take j) := ⟨_, rfl⟩
      have hr1 : r < 65536 := by rw [hr]; exact crc_lt (fun y hy => HB.out y (List.mem_of_mem_take hy))
      have HRr := Lib.hid hr
      rw [← hr]
      clear hr hxj hlt
      have e1 : bits .xor .u16 (r : Int) (x * 256) = ((r ^^^ x.toNat * 256 : Nat) : Int) := by
        rw [show x * 256 = ((x.toNat * 256 : Nat) : Int) by omega]
        exact u16_xor_nat r (x.toNat * 256) hr1 (by omega)
      have E1 := Lib.hid e1
      have hq0 : r ^^^ x.toNat * 256 < 65536 := Nat.xor_lt_two_pow (n := 16) hr1 (by omega)
      obtain ⟨q0, hq⟩ : ∃ q0, q0 = r ^^^ x.toNat * 256 := ⟨_, rfl⟩
      rw [← hq] at hq0
      have HQ := Lib.hid hq
      clear e1 hq
      go_wp2_with fail
      rw [E1.out, ← HQ.out]
      go_loopg [3, 17] 8 (fun k s3 s17 wr => ∃ m : Nat, m ≤ 8 ∧ k = 8 - m ∧ s17 = .int .i64 m ∧ s3 = .int .u16 (Tn m q0) ∧ w = wr)
      case atStart => exact ⟨0, by omega, rfl, rfl, rfl, rfl⟩
      case round =>
        obtain ⟨m, hm, hk, rfl, rfl, rfl⟩ := hrel
        have HN2 := Lib.hid hk
        have hq1 := Tn_lt (k := m) hq0
        obtain ⟨q, hq⟩ : ∃ q, q = Tn m q0 := ⟨_, rfl⟩
        have HQ2 := Lib.hid hq
        rw [← hq] at hq1 ⊢
        clear hk hq
        by_cases hm8 : m < 8
        · have h8 : (m : Int) < 8 := by omega
          go_wp2_with fail
          go_roundg (8 - (m + 1))
          case measure => rw [HN2.out]; omega
          case rel => exact ⟨m + 1, hm8, rfl, by go_num, by
            have e : bits .xor .u16 (IntKind.u16.wrap ((q : Int) * 2)) ((q : Int) / 32768 * 4129) = ((T q : Nat) : Int) := by
              rw [IntKind.wrap_u16, show (q : Int) * 2 % 65536 = ((q * 2 % 65536 : Nat) : Int) by omega, show (q : Int) / 32768 * 4129 = ((q / 32768 * 4129 : Nat) : Int) by omega]
              exact u16_xor_nat _ _ (by omega) (by omega)
            rw [e, Tn_succ, ← HQ2.out], rfl⟩
        · have h8 : ¬ (m : Int) < 8 := by omega
          obtain rfl : m = 8 := by omega
          have E8 : Hid (crc (xs.take (j + 1)) = q) := Lib.hid (by
            rw [crc_take HX.out, HQ2.out, HQ.out, ← HRr.out]
            rfl)
          go_wp2_with fail
          go_roundg (n - (j + 1))
          case measure => rw [HM.out]; omega
          case rel => exact ⟨j + 1, by omega, rfl, by go_num, by rw [E8.out], rfl⟩
    · have h1 : ¬ (j : Int) < (n : Int) := by omega
      have E : Hid (crc (xs.take j) = crc xs) := Lib.hid (by rw [List.take_of_length_le (by rw [← HN.out]; omega)])
      clear hlt
      go_wp2_with fail
      go_ret
      rw [E.out]
      exact ⟨rfl, rfl⟩
end Go.Proofs.Ytgegpeicpbhnkaa.Nvm
