/- The document's CRC16: the same sum. -/
import Derived.Test.YtgegpeicpbhnkaaNvmA
namespace Go.Proofs.Ytgegpeicpbhnkaa.Nvm
open Go.RowKit Go.Proofs.Ytgegpeicpbhnkaa.Own Go.Proofs.Ytgegpeicpbhnkaa.Crc
theorem rcrc_facts (q : Nat) (h : q < 65536) : bits .and .u32 ((q : Int) / 32768) 1 = ((q / 32768 : Nat) : Int) ∧ IntKind.u32.wrap ((q : Int) * 2) = (q : Int) * 2 ∧ bits .and .u32 ((q : Int) * 2) 65535 = ((q * 2 % 65536 : Nat) : Int) ∧ bits .xor .u32 ((q * 2 % 65536 : Nat) : Int) 4129 = ((q * 2 % 65536 ^^^ 4129 : Nat) : Int) := by
  refine ⟨?_, ?_, ?_, ?_⟩
  · rw [show (q : Int) / 32768 = ((q / 32768 : Nat) : Int) by omega, show (1 : Int) = ((1 : Nat) : Int) from rfl, u32_and_nat _ _ (by omega) (by omega), Nat.and_one_is_mod]
    omega
  · rw [IntKind.wrap_u32]
    omega
  · rw [show (q : Int) * 2 = ((q * 2 : Nat) : Int) by omega, show (65535 : Int) = ((65535 : Nat) : Int) from rfl, u32_and_nat _ _ (by omega) (by omega)]
    rw [show (65535 : Nat) = 2 ^ 16 - 1 from rfl, Nat.and_two_pow_sub_one_eq_mod]
  · rw [show (4129 : Int) = ((4129 : Nat) : Int) from rfl]
    exact u32_xor_nat _ _ (by omega) (by omega)
theorem T_cases (q : Nat) (_h : q < 65536) : (q / 32768 = 1 → T q = q * 2 % 65536 ^^^ 4129) ∧ (q / 32768 = 0 → T q = q * 2 % 65536) := by
  unfold T
  constructor
  · intro e
    rw [e]
  · intro e
    rw [e, Nat.zero_mul, Nat.xor_zero]
set_option maxHeartbeats 4000000 in
theorem RCRC16_any {w : World} (A : Option Addr) (c : Nat) (xs : List Int) (hr : Row w A (ints .u8 xs)) (hb : ∀ x ∈ xs, 0 ≤ x ∧ x ≤ 255) (hl : xs.length ≤ 1000000000000000) :
    Calls Try.prog 41 #[.slice A xs.length c] w fun e w' => e = .returned (.int .u16 (crc xs)) ∧ w = w' := by
  have HR := Lib.hid hr
  have HB := Lib.hid hb
  clear hr hb
  obtain ⟨n, hn⟩ : ∃ n, n = xs.length := ⟨_, rfl⟩
  have HN := Lib.hid hn
  rw [← hn]
  have hl2 : n ≤ 1000000000000000 := by omega
  clear hn hl
  go_enter Try.func41, Try.ntmps41
  go_wp2_with fail
  go_loopg [3, 4] n (fun k s3 s4 wr => ∃ j : Nat, j ≤ n ∧ k = n - j ∧ s4 = .int .i64 j ∧ s3 = .int .u32 (crc (xs.take j)) ∧ w = wr)
  case atStart => exact ⟨0, Nat.zero_le _, rfl, rfl, rfl, rfl⟩
  case round =>
    obtain ⟨j, hj, hk, rfl, rfl, rfl⟩ := hrel
    have HM := Lib.hid hk
    clear hk
    by_cases hlt : j < n
    · obtain ⟨x, hxj⟩ : ∃ x, xs[j]? = some x := ⟨xs[j]'(by rw [← HN.out]; exact hlt), List.getElem?_eq_getElem _⟩
      obtain ⟨b, o, rfl, lb, gb⟩ := HR.out j (.int .u8 x) (by rw [ints_get, hxj]; rfl)
      have HX := Lib.hid hxj
      obtain ⟨x0, x1⟩ := HB.out x (List.mem_of_getElem? hxj)
      have h1 : (j : Int) < (n : Int) := by omega
      have h0 : (0 : Int) ≤ (j : Int) := by omega
      obtain ⟨r, hr⟩ : ∃ r, r = crc (xs.take j) := ⟨_, rfl⟩
      have hr1 : r < 65536 := by rw [hr]; exact crc_lt (fun y hy => HB.out y (List.mem_of_mem_take hy))
      have HRr := Lib.hid hr
      rw [← hr]
      clear hr hxj hlt
      have hq0 : r ^^^ x.toNat * 256 < 65536 := Nat.xor_lt_two_pow (n := 16) hr1 (by omega)
      obtain ⟨q0, hq⟩ : ∃ q0, q0 = r ^^^ x.toNat * 256 := ⟨_, rfl⟩
      have e1 : bits .xor .u32 (r : Int) (x * 256) = (q0 : Int) := by
        rw [show x * 256 = ((x.toNat * 256 : Nat) : Int) by omega, hq]
        exact u32_xor_nat r (x.toNat * 256) (by omega) (by omega)
      have e2 : IntKind.u32.wrap (x * 256) = x * 256 := by rw [IntKind.wrap_u32]; omega
      rw [← hq] at hq0
      have HQ := Lib.hid hq
      clear hq
      go_wp2_with fail
      go_loopg [3, 5] 8 (fun k s3 s5 wr => ∃ m : Nat, m ≤ 8 ∧ k = 8 - m ∧ s5 = .int .i64 m ∧ s3 = .int .u32 (Tn m q0) ∧ w = wr)
      case atStart => exact ⟨0, by omega, rfl, rfl, rfl, rfl⟩
      case round =>
        obtain ⟨m, hm, hk, rfl, rfl, rfl⟩ := hrel
        have HN2 := Lib.hid hk
        have hq1 := Tn_lt (k := m) hq0
        obtain ⟨q, hq⟩ : ∃ q, q = Tn m q0 := ⟨_, rfl⟩
        have HQ2 := Lib.hid hq
        rw [← hq] at hq1 ⊢
        clear hk hq
        by_cases hm8 : m < 8
        · have h8 : (m : Int) < 8 := by omega
          obtain ⟨f1, f2, f3, f4⟩ := rcrc_facts q hq1
          obtain ⟨v, hv⟩ : ∃ v, v = q * 2 % 65536 := ⟨_, rfl⟩
          rw [← hv] at f3 f4
          by_cases ho : q / 32768 = 1
          · rw [ho] at f1
            have HT : Hid (T q = v ^^^ 4129) := Lib.hid (by rw [hv]; exact (T_cases q hq1).1 ho)
            clear ho hv
            go_wp2_with fail
            go_roundg (8 - (m + 1))
            case measure => rw [HN2.out]; omega
            case rel => exact ⟨m + 1, hm8, rfl, by go_num, by rw [Tn_succ, ← HQ2.out, HT.out], rfl⟩
          · have ho0 : q / 32768 = 0 := by omega
            rw [ho0] at f1
            have HT : Hid (T q = v) := Lib.hid (by rw [hv]; exact (T_cases q hq1).2 ho0)
            clear ho ho0 hv
            go_wp2_with fail
            go_roundg (8 - (m + 1))
            case measure => rw [HN2.out]; omega
            case rel => exact ⟨m + 1, hm8, rfl, by go_num, by rw [Tn_succ, ← HQ2.out, HT.out], rfl⟩
        · have h8 : ¬ (m : Int) < 8 := by omega
          obtain rfl : m = 8 := by omega
          have E8 : Hid (crc (xs.take (j + 1)) = q) := Lib.hid (by
            rw [crc_take HX.out, HQ2.out, HQ.out, ← HRr.out]
            rfl)
          go_wp2_with fail
          go_roundg (n - (j + 1))
          case measure => rw [HM.out]; omega
          case rel => exact ⟨j + 1, by omega, rfl, by go_num, by rw [E8.out], rfl⟩
    · have h1 : ¬ (j : Int) < (n : Int) := by omega
      have E : Hid (crc (xs.take j) = crc xs) := Lib.hid (by rw [List.take_of_length_le (by rw [← HN.out]; omega)])
      have hcl : crc (xs.take j) < 65536 := crc_lt (fun y hy => HB.out y (List.mem_of_mem_take hy))
      clear hlt
      go_wp2_with fail
      go_ret
      have h16 : IntKind.u16.wrap (crc (xs.take j) : Int) = (crc (xs.take j) : Int) := by rw [IntKind.wrap_u16]; omega
      first | rw [h16, E.out] | rw [E.out]
      exact ⟨rfl, rfl⟩
end Go.Proofs.Ytgegpeicpbhnkaa.Nvm
