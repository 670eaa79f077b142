/- The sum tells one byte from another: plain law. -/
import Derived.Test.YtdmomhbimhggiaaBlockK
namespace Go.Proofs.Ytdmomhbimhggiaa.Block
open Go.RowKit Go.Proofs.Ytdmomhbimhggiaa.Own Go.Proofs.Ytdmomhbimhggiaa.Crc
theorem xor_cancel {a b c : Nat} (h : a ^^^ c = b ^^^ c) : a = b := by
  have e : (a ^^^ c) ^^^ c = (b ^^^ c) ^^^ c := by rw [h]
  rwa [Nat.xor_assoc, Nat.xor_assoc, Nat.xor_self, Nat.xor_zero, Nat.xor_zero] at e
theorem xor_cancel_l {a b c : Nat} (h : c ^^^ a = c ^^^ b) : a = b := by
  rw [Nat.xor_comm c a, Nat.xor_comm c b] at h
  exact xor_cancel h
theorem T_inj {r s : Nat} (hr : r < 65536) (hs : s < 65536) (h : T r = T s) : r = s := by
  have hp : T r % 2 = T s % 2 := by rw [h]
  unfold T at h hp
  have e1 : ∀ t : Nat, t < 65536 → ((t * 2 % 65536) ^^^ (t / 32768 * 4129)) % 2 = t / 32768 := fun t ht => by
    have h := Nat.xor_mod_two_pow (a := t * 2 % 65536) (b := t / 32768 * 4129) (n := 1)
    rw [show (2 : Nat) ^ 1 = 2 from rfl, show t * 2 % 65536 % 2 = 0 by omega, show t / 32768 * 4129 % 2 = t / 32768 by omega, Nat.zero_xor] at h
    exact h
  rw [e1 r hr, e1 s hs] at hp
  rw [hp] at h
  have := xor_cancel h
  omega
theorem Tn_inj : ∀ (k : Nat) {r s : Nat}, r < 65536 → s < 65536 → Tn k r = Tn k s → r = s
  | 0, _, _, _, _, h => h
  | k + 1, _, _, hr, hs, h => T_inj hr hs (Tn_inj k (T_lt hr) (T_lt hs) h)
theorem S_inj_r {r s x : Nat} (hr : r < 65536) (hs : s < 65536) (hx : x < 256) (h : S r x = S s x) : r = s :=
  xor_cancel (Tn_inj 8 (Nat.xor_lt_two_pow (n := 16) hr (by omega)) (Nat.xor_lt_two_pow (n := 16) hs (by omega)) h)
theorem S_inj_x {r x y : Nat} (hr : r < 65536) (hx : x < 256) (hy : y < 256) (h : S r x = S r y) : x = y := by
  have := xor_cancel_l (Tn_inj 8 (Nat.xor_lt_two_pow (n := 16) hr (by omega)) (Nat.xor_lt_two_pow (n := 16) hr (by omega)) h)
  omega
theorem crcFrom_inj : ∀ {xs : List Int} {r s : Nat}, r < 65536 → s < 65536 → (∀ x ∈ xs, 0 ≤ x ∧ x ≤ 255) → crcFrom r xs = crcFrom s xs → r = s
  | [], _, _, _, _, _, h => h
  | x :: xs, r, s, hr, hs, hx, h => by
    have hb := hx x (by simp)
    exact S_inj_r (x := x.toNat) hr hs (by omega) (crcFrom_inj (S_lt hr (by omega)) (S_lt hs (by omega)) (fun y hy => hx y (by simp [hy])) h)
/-- One byte that is another one: another sum. -/
theorem crc_set {xs : List Int} (hb : ∀ x ∈ xs, 0 ≤ x ∧ x ≤ 255) {i : Nat} (hi : i < xs.length) {y : Int} (y0 : 0 ≤ y) (y1 : y ≤ 255) (hy : xs[i] ≠ y) : crc (xs.set i y) ≠ crc xs := by
  intro h
  have h1 : xs = xs.take i ++ xs[i] :: xs.drop (i + 1) := by simp
  have h2 : xs.set i y = xs.take i ++ y :: xs.drop (i + 1) := List.set_eq_take_append_cons_drop.trans (by rw [if_pos hi])
  unfold crc at h
  rw [h2] at h
  conv at h => rhs; rw [h1]
  rw [crcFrom_append, crcFrom_append] at h
  have hr := crcFrom_lt (xs := xs.take i) (r := 0) (by decide) (fun z hz => hb z (List.mem_of_mem_take hz))
  have hx := hb xs[i] (List.getElem_mem hi)
  have h3 := crcFrom_inj (xs := xs.drop (i + 1)) (S_lt hr (x := y.toNat) (by omega)) (S_lt hr (x := xs[i].toNat) (by omega)) (fun z hz => hb z (List.mem_of_mem_drop hz)) h
  have h4 := S_inj_x hr (by omega) (by omega) h3
  exact hy (by omega)
end Go.Proofs.Ytdmomhbimhggiaa.Block
