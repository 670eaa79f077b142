/- Bytes cut short, bytes copied. -/
import Derived.Test.YtdmomhbimhggiaaBlockI
namespace Go.Proofs.Ytdmomhbimhggiaa.Block
open Go.RowKit Go.Proofs.Ytdmomhbimhggiaa.Own Go.Proofs.Ytdmomhbimhggiaa.Crc
theorem In.take {w : World} {A : Option Addr} {c : Nat} {xs : List Int} (h : In w A c xs) (k : Nat) : In w A c (xs.take k) :=
  ⟨Row.take h.row k, h.nil, by have := h.le; rw [List.length_take]; omega, fun x hx => h.byte x (List.mem_of_mem_take hx)⟩
theorem own_in {w : World} {base n : Nat} {v : Value} {xs : List Int} (h : w.ownsRow base 5 1 v n (ints .u8 xs)) (hn : n = xs.length) (hb : ∀ x ∈ xs, 0 ≤ x ∧ x ≤ 255) : ∃ A c, v = .slice A n c ∧ In w A c xs ∧ ∀ a, A = some a → base ≤ a.block ∧ a.block < w.heap.size := by
  obtain ⟨A, c, rfl, hr, hc, hm, hbs⟩ := Row.own h
  refine ⟨A, c, rfl, ⟨hr, ?_, by omega, hb⟩, fun a ha => ⟨hbs a ha, by subst ha; exact own_lt h⟩⟩
  rintro rfl
  obtain ⟨_, ⟨hv, _⟩ | ⟨g2, cap, cur, hv, _⟩⟩ := h
  · simp only [Value.slice.injEq] at hv
    exact hv.2.2
  · simp at hv
end Go.Proofs.Ytdmomhbimhggiaa.Block
