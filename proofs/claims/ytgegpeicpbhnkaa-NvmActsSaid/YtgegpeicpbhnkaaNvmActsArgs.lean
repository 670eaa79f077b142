/- How NvmActs's arguments read. -/
import Derived.Test.YtgegpeicpbhnkaaNvmActs
import Derived.Test.YtgegpeicpbhnkaaNvmArgs
namespace Go.Proofs.Ytgegpeicpbhnkaa.Nvm
open Go.RowKit Go.Proofs.Ytgegpeicpbhnkaa.Own
theorem readsPage : Reads Try.prog 44 (ArrIs (IntIs .u8) 8) := Reads.array (e := 5) Try.underlying44 (Reads.int Try.underlying5) (by kernel_rfl) (by kernel_rfl)
def ActK : World → Int × Int × Int × List Int × List Int × Unit → List Value → Prop := Both (IntIs .i64) (Both (IntIs .i64) (Both (IntIs .i64) (Both (ArrIs (IntIs .u8) 8) (Both (SliceIs (IntIs .u8) 1 1) NoCells))))
theorem readsAct : Reads Try.prog 46 ActK :=
  Reads.struct (N := 12) Try.underlying46 (by kernel_rfl) (ReadsF.cons (n := 1) (Reads.int Try.underlying3) rfl (by kernel_rfl) (ReadsF.cons (n := 1) (Reads.int Try.underlying3) rfl (by kernel_rfl) (ReadsF.cons (n := 1) (Reads.int Try.underlying3) rfl (by kernel_rfl) (ReadsF.cons (n := 8) readsPage rfl (by kernel_rfl) (ReadsF.cons (n := 1) readsBytes rfl (by kernel_rfl) (ReadsF.nil 12))))))
theorem readsActs : Reads Try.prog 39 (SliceIs ActK 12 56) := Reads.slice Try.underlying39 readsAct (by kernel_rfl) (by decide) (by kernel_rfl)
def asF (x : List Int) : Nat → Int := fun k => x.getD k 0
theorem arr_cells {w : World} {x : List Int} {cs : List Value} (h : ArrIs (IntIs .u8) 8 w x cs) : cs.length = 8 ∧ (∀ k, 0 ≤ asF x k ∧ asF x k ≤ 255) ∧ ∀ k, k < 8 → cs[k]? = some (.int .u8 (asF x k)) := by
  obtain ⟨hx, hcs, hel⟩ := h
  refine ⟨hcs, fun k => ?_, fun k hk => ?_⟩
  · unfold asF
    rw [List.getD_eq_getElem?_getD]
    rcases hk : x[k]? with _ | y
    · simp
    · obtain ⟨v, _, e, hw⟩ := hel k y hk
      exact bounds_u8 hw
  · have hg : x[k]? = some (x[k]'(by omega)) := List.getElem?_eq_getElem (by omega)
    obtain ⟨v, hv, e, _⟩ := hel k _ hg
    simp only [List.cons.injEq, and_true] at e
    rw [hv, e]
    unfold asF
    rw [List.getD_eq_getElem?_getD, hg]
    rfl
def actOf (x : Int × Int × Int × List Int × List Int × Unit) : NAct := ⟨x.1, x.2.1, x.2.2.1, asF x.2.2.2.1, x.2.2.2.2.1⟩
theorem actsAt_of {w : World} {A : Option Addr} {xs : List (Int × Int × Int × List Int × List Int × Unit)} (h : RowOf ActK 12 w A xs) : NActsAt w A (xs.map actOf) := by
  intro i y hy
  rw [List.getElem?_map] at hy
  obtain ⟨x, hx, rfl⟩ := Option.map_eq_some_iff.1 hy
  obtain ⟨b, o, cs, rfl, hb, ⟨c1, c2, rfl, ⟨rfl, _⟩, c3, c4, rfl, ⟨rfl, _⟩, c5, c6, rfl, ⟨rfl, hw⟩, c7, c8, rfl, h7, c9, c10, rfl, ⟨B, cb, rfl, k1, k2, k3, k4, k5⟩, h10⟩, hl, hc⟩ := h i x hx
  obtain rfl : c10 = [] := h10
  obtain ⟨hl7, hF, hcF⟩ := arr_cells h7
  have at7 : ∀ k v, k < 8 → c7[k]? = some v → w.cell? ⟨b, o + i * 12 + (3 + k), none⟩ = some v := fun k v hk hv => hc (3 + k) v (by
    rw [← List.append_assoc, ← List.append_assoc, List.getElem?_append_right (by simp)]
    simp only [List.length_append, List.length_cons, List.length_nil]
    rw [show 3 + k - (0 + 1 + (0 + 1) + (0 + 1)) = k by omega, List.getElem?_append_left (by omega)]
    exact hv)
  have at8 : w.cell? ⟨b, o + i * 12 + 11, none⟩ = some (.slice B (actOf x).bs.length cb) := hc 11 _ (by
    rw [← List.append_assoc, ← List.append_assoc, ← List.append_assoc, List.getElem?_append_right (by simp [hl7])]
    simp [hl7]
    rfl)
  exact ⟨b, o, B, cb, rfl, hb, in_of k5 k3 k4, k1, (bounds_i64 hw).2, hF, hc 0 _ rfl, hc 1 _ rfl, hc 2 _ rfl, at7 0 _ (by decide) (hcF 0 (by decide)), at7 1 _ (by decide) (hcF 1 (by decide)), at7 2 _ (by decide) (hcF 2 (by decide)), at7 3 _ (by decide) (hcF 3 (by decide)), at7 4 _ (by decide) (hcF 4 (by decide)), at7 5 _ (by decide) (hcF 5 (by decide)), at7 6 _ (by decide) (hcF 6 (by decide)), at7 7 _ (by decide) (hcF 7 (by decide)), at8⟩
theorem acts_walk' (n : Int) (A : Option Addr) (c : Nat) (xs : List (Int × Int × Int × List Int × List Int × Unit)) (w : World) (h : RowOf ActK 12 w A xs) (hb : xs.length * 56 ≤ reachBytes) :
    Calls Try.prog 7 #[.int .i64 n, .slice A xs.length c] w fun e w' => e = .returned (.bool true) ∧ Keep Own.Zero w w' := by
  by_cases hn : n < 4 ∨ 32768 < n
  · exact acts_bad n hn _ w
  · obtain ⟨m, rfl⟩ : ∃ m : Nat, n = m := ⟨n.toNat, by omega⟩
    have hl : (xs.map actOf).length = xs.length := List.length_map _
    have hw := acts_ok m (by omega) (by omega) A c _ w (actsAt_of h) (by rw [hl]; unfold reachBytes at hb; omega)
    rw [hl] at hw
    exact hw
end Go.Proofs.Ytgegpeicpbhnkaa.Nvm
