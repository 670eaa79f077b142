/- beat's watcher: its ticks, what it answers, how it is made. -/
import Derived.Test.YtcmfcnljdeddfaaTopF
namespace Go.Proofs.Ytcmfcnljdeddfaa.Beat
open Go.RowKit Go.Proofs.Ytcmfcnljdeddfaa.Own

theorem State_any {w : World} {g a b c : Nat} {st since : Int} {there : Bool} (h : IsWt w g a b c ⟨st, there, false, since⟩) :
    Calls Try.prog 15 #[.pointer (some ⟨g, 0, none⟩), .int .i64 9] w fun e w' => e = .returned (.tuple #[.int .i64 (if there then st else 0), .bool there]) ∧ Keep Zero w w' := by
  have H := Lib.hid h
  clear h
  cases there
  all_goals
    go_enter Try.func15, Try.ntmps15
    go_wp2_with fail
    refine (of_1 H.out).mono ?_
    rintro e w1 ⟨rfl, hk⟩
    have HK := Lib.hid hk
    have H1 := Lib.hid (H.out.keep hk id id id)
    obtain ⟨⟨d0, d1, d2, d3, d4, d5⟩, f0, f1, f2, f3, f4, f5⟩ := low_facts H1.out.low
    clear hk
    go_wp2_with fail
    go_ret2
    exact ⟨rfl, HK.out⟩

def tickF (there : Bool) (since : Int) : Int := if there then since + 1 else since
def TickPost (w : World) (g a b c : Nat) (t1 : Wt) (e : Ending) (w' : World) : Prop := (∃ A n m, e = .returned (.slice A n m)) ∧ IsWt w' g a b c t1 ∧ Keep (One b) w w'
set_option maxHeartbeats 4000000 in
theorem Tick_any {w : World} {g a b c : Nat} {st since : Int} {there : Bool} (h : IsWt w g a b c ⟨st, there, false, since⟩) (h0 : 0 ≤ since) (h1 : since ≤ 10) :
    Calls Try.prog 12 #[.pointer (some ⟨g, 0, none⟩)] w (TickPost w g a b c ⟨st, there, false, tickF there since⟩) := by
  have H := Lib.hid h
  have c0 : w.cell? ⟨g, 0, none⟩ = some (.slice (some ⟨a, 0, none⟩) 1 c) := h.top.cell 0
  have glt := h.top.lt
  clear h
  go_enter Try.func12, Try.ntmps12
  go_wp2
  go_loopg [3, 5, 11] 1 (fun k s3 _ s11 wr => s3 = .slice none 0 0 ∧ ((k = 1 ∧ s11 = .int .i64 0 ∧ wr = w) ∨ (k = 0 ∧ s11 = .int .i64 1 ∧ Hid (IsWt wr g a b c ⟨st, there, false, tickF there since⟩ ∧ Keep (One b) w wr))))
  case atStart => exact ⟨rfl, .inl ⟨rfl, rfl, rfl⟩⟩
  case round =>
    obtain ⟨rfl, ⟨rfl, rfl, rfl⟩ | ⟨rfl, rfl, HK⟩⟩ := hrel
    · have m := H.out.mid
      have alt := H.out.alt
      have blt := H.out.low.lt
      obtain ⟨⟨d0, d1, d2, d3, d4, d5⟩, f0, f1, f2, f3, f4, f5⟩ := low_facts H.out.low
      cases there
      · go_wp2_with fail
        go_roundg 0
        case measure => omega
        case rel => exact ⟨rfl, .inr ⟨rfl, rfl, H.out, Keep.refl _ _⟩⟩
      · have hb : decide (20 ≤ since + 1) = false := by simp; omega
        go_wp2_with fail
        go_quiet (fail)
        go_wp2
        go_roundg 0
        case measure => omega
        case rel =>
          refine ⟨rfl, .inr ⟨rfl, rfl, ?_⟩⟩
          have k : ∀ q, Keep (One b) wr ((wr.setCell ⟨b, 5, none⟩ (.int .u64 (since + 1))).drewN q) := fun q => ((Keep.refl _ _).set1 _ _).drewN _
          exact ⟨H.out.to (k _) (((H.out.low.set 5 _).drewN _).cast rfl), k _⟩
    · go_wp2
      go_ret
      exact ⟨⟨_, _, _, rfl⟩, HK.out⟩
end Go.Proofs.Ytcmfcnljdeddfaa.Beat
