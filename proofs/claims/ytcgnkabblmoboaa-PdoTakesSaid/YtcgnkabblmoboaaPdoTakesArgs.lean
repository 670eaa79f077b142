/- How PdoTakes's arguments read, and the type that is refused. -/
import Derived.Test.YtcgnkabblmoboaaPdoTakes
import Derived.Test.YtcgnkabblmoboaaArgInts
namespace Go.Proofs.Ytcgnkabblmoboaa.Pdo
open Go.RowKit Go.Proofs.Ytcgnkabblmoboaa.Own
theorem readsBytes : Reads Try.prog 29 (SliceIs (IntIs .u8) 1 1) := Reads.slice Try.underlying29 (Reads.int Try.underlying5) (by kernel_rfl) (by decide) (by kernel_rfl)
theorem readsCome : Reads Try.prog 31 (Both (IntIs .i64) (Both BoolIs (Both (SliceIs (IntIs .u8) 1 1) NoCells))) :=
  Reads.struct (N := 3) Try.underlying31 (by kernel_rfl) (ReadsF.cons (n := 1) (Reads.int Try.underlying3) rfl (by kernel_rfl) (ReadsF.cons (n := 1) (Reads.bool Try.underlying4) rfl (by kernel_rfl) (ReadsF.cons (n := 1) readsBytes rfl (by kernel_rfl) (ReadsF.nil 3))))
theorem readsComes : Reads Try.prog 22 (SliceIs (Both (IntIs .i64) (Both BoolIs (Both (SliceIs (IntIs .u8) 1 1) NoCells))) 3 40) := Reads.slice Try.underlying22 readsCome (by kernel_rfl) (by decide) (by kernel_rfl)
theorem cmsAt_of {w : World} {A : Option Addr} {xs : List (Int × Bool × List Int × Unit)} (h : RowOf (Both (IntIs .i64) (Both BoolIs (Both (SliceIs (IntIs .u8) 1 1) NoCells))) 3 w A xs) : ∃ l : List Cm, l.length = xs.length ∧ CmsAt w A l := by
  refine list_of (p := fun i x => ∃ b o, A = some ⟨b, o, none⟩ ∧ b < w.heap.size ∧ CmOk w b (o + i * 3) x) xs.length (fun i hi => ?_)
  obtain ⟨b, o, cs, rfl, hb, ⟨c1, c2, rfl, ⟨rfl, _⟩, c3, c4, rfl, e3, c5, c6, rfl, ⟨A', c', rfl, h1, h2, h3, h4, h5⟩, h6⟩, hl, hc⟩ := h i _ (List.getElem?_eq_getElem hi)
  obtain rfl : c3 = _ := e3
  have hbig : xs[i].2.2.1.length ≤ 140737488355328 := by unfold reachBytes at h4; simp at h4; omega
  exact ⟨⟨_, _, A', c', _⟩, b, o, rfl, hb, hc 0 _ rfl, hc 1 _ rfl, hc 2 _ rfl, row_of h5, h1, h3, hbig⟩
theorem takes_bad (t : Int) (hb : isB t = false) (v : Value) (w : World) : Calls Try.prog 3 #[.int .i64 t, v] w fun e w' => e = .returned (.bool true) ∧ Keep Zero w w' := by
  have H := Lib.hid hb
  clear hb
  go_enter Try.func3, Try.ntmps3
  go_wp2_with fail
  refine (NewT_bad t H.out _).mono ?_
  rintro e w' ⟨rfl, rfl⟩
  go_wp2_with fail
  refine (RIs_any t false H.out _).mono ?_
  rintro e w' ⟨rfl, rfl⟩
  go_wp2_with ((with_reducible refine (lives_any _).mono ?_); rintro e w' ⟨rfl, hk⟩)
  go_ret
  rename_i hk
  exact ⟨rfl, hk.out⟩
theorem takes_walk' (t : Int) (A : Option Addr) (c : Nat) (xs : List (Int × Bool × List Int × Unit)) (w : World) (h : RowOf (Both (IntIs .i64) (Both BoolIs (Both (SliceIs (IntIs .u8) 1 1) NoCells))) 3 w A xs) (hb : xs.length * 40 ≤ reachBytes) :
    Calls Try.prog 3 #[.int .i64 t, .slice A xs.length c] w fun e w' => e = .returned (.bool true) ∧ Keep Zero w w' := by
  cases hok : isB t with
  | false => exact takes_bad t hok _ w
  | true =>
    obtain ⟨l, hl, hc⟩ := cmsAt_of h
    have hwk := takes_walk t hok A c l w hc (by unfold reachBytes at hb; omega)
    rw [hl] at hwk
    exact hwk
end Go.Proofs.Ytcgnkabblmoboaa.Pdo
