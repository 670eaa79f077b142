/- The sum of bytes: plain law. -/
import Derived.Laws.BitsAllLaws
namespace Go.Proofs.Ytgegpeicpbhnkaa.Crc
/-- One bit. -/
def T (r : Nat) : Nat := (r * 2 % 65536) ^^^ (r / 32768 * 4129)
theorem T_lt {r : Nat} (h : r < 65536) : T r < 65536 := by
  unfold T
  refine Nat.xor_lt_two_pow (n := 16) ?_ ?_ <;> omega
def Tn : Nat → Nat → Nat
  | 0, r => r
  | k + 1, r => Tn k (T r)
theorem Tn_succ : ∀ (k r : Nat), Tn (k + 1) r = T (Tn k r)
  | 0, r => rfl
  | k + 1, r => by
    show Tn (k + 1) (T r) = T (Tn k (T r))
    exact Tn_succ k (T r)
theorem Tn_lt : ∀ {k r : Nat}, r < 65536 → Tn k r < 65536
  | 0, _, h => h
  | k + 1, r, h => by
    show Tn k (T r) < 65536
    exact Tn_lt (T_lt h)
/-- One byte. -/
def S (r x : Nat) : Nat := Tn 8 (r ^^^ x * 256)
theorem S_lt {r x : Nat} (h : r < 65536) (hx : x < 256) : S r x < 65536 := by
  unfold S
  refine Tn_lt (Nat.xor_lt_two_pow (n := 16) h (by omega))
def crcFrom (r : Nat) (xs : List Int) : Nat := xs.foldl (fun r x => S r x.toNat) r
def crc (xs : List Int) : Nat := crcFrom 0 xs
theorem crcFrom_lt : ∀ {xs : List Int} {r : Nat}, r < 65536 → (∀ x ∈ xs, 0 ≤ x ∧ x ≤ 255) → crcFrom r xs < 65536
  | [], _, h, _ => h
  | x :: xs, r, h, hx => by
    have := hx x (by simp)
    show crcFrom (S r x.toNat) xs < 65536
    exact crcFrom_lt (S_lt h (by omega)) (fun y hy => hx y (by simp [hy]))
theorem crc_lt {xs : List Int} (h : ∀ x ∈ xs, 0 ≤ x ∧ x ≤ 255) : crc xs < 65536 := crcFrom_lt (by decide) h
theorem crcFrom_append (r : Nat) (xs ys : List Int) : crcFrom r (xs ++ ys) = crcFrom (crcFrom r xs) ys := List.foldl_append
theorem crcFrom_snoc (r : Nat) (xs : List Int) (x : Int) : crcFrom r (xs ++ [x]) = S (crcFrom r xs) x.toNat := by rw [crcFrom_append]; rfl
theorem crc_take {xs : List Int} {j : Nat} {x : Int} (h : xs[j]? = some x) : crc (xs.take (j + 1)) = S (crc (xs.take j)) x.toNat := by
  unfold crc
  rw [List.take_add_one, h]
  exact crcFrom_snoc _ _ _
end Go.Proofs.Ytgegpeicpbhnkaa.Crc
