/- How PdoQuiet's arguments read, and the form that is refused. -/
import Derived.Test.YtcgnkabblmoboaaPdoQuiet
import Derived.Test.YtcgnkabblmoboaaPdoArgs
namespace Go.Proofs.Ytcgnkabblmoboaa.Pdo
open Go.RowKit Go.Proofs.Ytcgnkabblmoboaa.Own
theorem quiet_bad (t i v : Int) (hb : okB t i v = false) (x : Value) (w : World) : Calls Try.prog 4 #[formV t i v, x] w fun e w' => e = .returned (.bool true) ∧ Keep Zero w w' := by
  unfold formV
  have HO := Lib.hid hb
  clear hb
  go_enter Try.func4, Try.ntmps4
  go_wp2_with fail
  refine (New_bad t i v HO.out _).mono ?_
  rintro e w1 ⟨rfl, h1⟩
  have B1 : Hid (Blk w1 w.heap.size #[.int .i64 t, .int .u64 i, .int .u64 v] 39) := Lib.hid ((Blk.new w _ _).keep h1 id)
  have K1 : Hid (Keep Zero w w1) := ((Keep.refl Zero w).alloc _).trans h1 (fun i hi => hi.elim)
  clear h1
  have d0 := B1.out.cell 0
  have d1 := B1.out.cell 1
  have d2 := B1.out.cell 2
  have he : err false = 1 := rfl
  go_wp2_with fail
  refine (RCheck_any t i v _ HO.out _).mono ?_
  rintro e w2 ⟨rfl, h1⟩
  have K2 : Hid (Keep Zero w w2) := K1.out.trans h1 (fun i hi => hi.elim)
  clear h1 d0 d1 d2 B1 K1
  go_wp2_with ((with_reducible refine (lives_any _).mono ?_); rintro e w' ⟨rfl, hk⟩)
  go_ret
  rename_i hk
  exact ⟨rfl, K2.out.trans hk.out (fun i hi => hi.elim)⟩
theorem quiet_walk' (cs : Array Value) (y : Int × Int × Int × Unit) (A : Option Addr) (c : Nat) (xs : List (Int × Bool × Int × Unit)) (w : World) (hf : Both (IntIs .i64) (Both (IntIs .u64) (Both (IntIs .u64) NoCells)) w y cs.toList)
    (h : RowOf (Both (IntIs .i64) (Both BoolIs (Both (IntIs .u8) NoCells))) 3 w A xs) (hb : xs.length * 16 ≤ reachBytes) :
    Calls Try.prog 4 #[.agg cs, .slice A xs.length c] w fun e w' => e = .returned (.bool true) ∧ Keep Zero w w' := by
  obtain ⟨t, i, v, e, i0, v0⟩ := form_of hf
  rw [e]
  cases hok : okB t i v with
  | false => exact quiet_bad t i v hok _ w
  | true =>
    have hl : (xs.map fun x => (⟨x.1, x.2.1, x.2.2.1⟩ : PAct)).length = xs.length := List.length_map _
    have hwk := quiet_walk t i v i0 hok A c _ w (actsAt_of h) (by rw [hl]; unfold reachBytes at hb; omega)
    rw [hl] at hwk
    exact hwk
end Go.Proofs.Ytcgnkabblmoboaa.Pdo
