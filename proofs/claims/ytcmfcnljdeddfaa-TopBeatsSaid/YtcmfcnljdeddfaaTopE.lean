/- beat's watcher of one node (9, 20 ticks). -/
import Derived.Test.YtcmfcnljdeddfaaOwn
import Derived.Lib.Walk
namespace Go.Proofs.Ytcmfcnljdeddfaa.Beat
open Go.RowKit Go.Proofs.Ytcmfcnljdeddfaa.Own

structure Wt where
  st : Int
  there : Bool
  lost : Bool
  since : Int
def Wt.cells (t : Wt) : Array Value := #[.int .i64 9, .int .u64 20, .int .i64 t.st, .bool t.there, .bool t.lost, .int .u64 t.since]
structure IsWt (w : World) (g a b c : Nat) (t : Wt) : Prop where
  top : Blk w g #[.slice (some ⟨a, 0, none⟩) 1 c] 81
  mid : w.cell? ⟨a, 0, none⟩ = some (.pointer (some ⟨b, 0, none⟩))
  low : Blk w b t.cells 85
  gb : g ≠ b
  ab : a ≠ b
theorem IsWt.alt {w : World} {g a b c : Nat} {t : Wt} (h : IsWt w g a b c t) : a < w.heap.size := World.block_lt_of_cell? w _ h.mid
theorem IsWt.keep {S : Nat → Prop} {w w1 : World} {g a b c : Nat} {t : Wt} (h : IsWt w g a b c t) (k : Keep S w w1) (hg : ¬ S g) (ha : ¬ S a) (hb : ¬ S b) : IsWt w1 g a b c t :=
  ⟨h.top.keep k hg, (k.cell (p := ⟨a, 0, none⟩) h.alt ha).trans h.mid, h.low.keep k hb, h.gb, h.ab⟩
theorem IsWt.to {w w1 : World} {g a b c : Nat} {t t1 : Wt} (h : IsWt w g a b c t) (k : Keep (One b) w w1) (hl : Blk w1 b t1.cells 85) : IsWt w1 g a b c t1 :=
  ⟨h.top.keep k h.gb, (k.cell (p := ⟨a, 0, none⟩) h.alt h.ab).trans h.mid, hl, h.gb, h.ab⟩

theorem pred_any (b q : Nat) (w : World) (hb : w.cell? ⟨b, 0, none⟩ = some (.int .i64 9)) (hq : w.cell? ⟨q, 0, none⟩ = some (.int .i64 9)) :
    Calls Try.prog 32 #[.pointer (some ⟨b, 0, none⟩), .pointer (some ⟨q, 0, none⟩)] w fun e w' => e = .returned (.bool true) ∧ Keep Zero w w' := by
  go_enter Try.func32, Try.ntmps32
  go_wp2_with fail
  go_quiet (fail)
  go_wp2
  go_ret
  exact ⟨rfl, (Keep.refl _ _).drewN _⟩

theorem IndexFunc_0 (q : Nat) (w : World) :
    Calls Try.prog 31 #[.slice none 0 0, .func (.func 32) #[] #[.pointer (some ⟨q, 0, none⟩)]] w fun e w' => e = .returned (.int .i64 (-1)) ∧ Keep Zero w w' := by
  go_enter Try.func31, Try.ntmps31
  go_wp2
  go_loopg [5, 8] 0 (fun k _ s8 wr => k = 0 ∧ s8 = .int .i64 0 ∧ Keep Zero w wr)
  case atStart => exact ⟨rfl, rfl, Keep.refl _ _⟩
  case round =>
    obtain ⟨rfl, rfl, hkp⟩ := hrel
    have HK := Lib.hid hkp
    clear hkp
    go_wp2
    go_ret
    exact ⟨rfl, HK.out⟩

theorem IndexFunc_1 (a b c q : Nat) (w : World) (ha : w.cell? ⟨a, 0, none⟩ = some (.pointer (some ⟨b, 0, none⟩))) (hb : w.cell? ⟨b, 0, none⟩ = some (.int .i64 9)) (hq : w.cell? ⟨q, 0, none⟩ = some (.int .i64 9)) :
    Calls Try.prog 31 #[.slice (some ⟨a, 0, none⟩) 1 c, .func (.func 32) #[] #[.pointer (some ⟨q, 0, none⟩)]] w fun e w' => e = .returned (.int .i64 0) ∧ Keep Zero w w' := by
  have H := Lib.hid (And.intro ha (And.intro hb hq))
  have la := World.block_lt_of_cell? w _ ha
  have lb := World.block_lt_of_cell? w _ hb
  have lq := World.block_lt_of_cell? w _ hq
  clear ha hb hq
  go_enter Try.func31, Try.ntmps31
  go_wp2
  go_loopg [5, 8] 1 (fun k _ s8 wr => k = 1 ∧ s8 = .int .i64 0 ∧ Keep Zero w wr)
  case atStart => exact ⟨rfl, rfl, Keep.refl _ _⟩
  case round =>
    obtain ⟨rfl, rfl, hkp⟩ := hrel
    have HK := Lib.hid hkp
    clear hkp
    have ha := (HK.out.cell (p := ⟨a, 0, none⟩) la id).trans H.out.1
    have hb := (HK.out.cell (p := ⟨b, 0, none⟩) lb id).trans H.out.2.1
    have hq := (HK.out.cell (p := ⟨q, 0, none⟩) lq id).trans H.out.2.2
    go_wp2_with fail
    refine (pred_any b q _ hb hq).mono ?_
    rintro e w' ⟨rfl, hk⟩
    have HK2 := Lib.hid hk
    clear hk
    go_wp2_with fail
    go_ret
    exact ⟨rfl, HK.out.trans HK2.out (fun i hi => hi.elim)⟩

theorem of_0 {w : World} {g : Nat} (h : Blk w g #[.slice none 0 0] 81) :
    Calls Try.prog 21 #[.pointer (some ⟨g, 0, none⟩), .int .i64 9] w fun e w' => e = .returned (.pointer none) ∧ Keep Zero w w' := by
  have c0 := h.cell 0
  have glt := h.lt
  simp only [List.getElem?_toArray, List.getElem?_cons_zero] at c0
  clear h
  go_enter Try.func21, Try.ntmps21
  go_wp2_with fail
  refine (IndexFunc_0 _ _).mono ?_
  rintro e w' ⟨rfl, hk⟩
  have HK := Lib.hid hk
  clear hk
  go_wp2_with fail
  go_ret
  exact ⟨rfl, ((Keep.refl Zero w).alloc _).trans HK.out (fun i hi => hi.elim)⟩

theorem of_1 {w : World} {g a b c : Nat} {t : Wt} (h : IsWt w g a b c t) :
    Calls Try.prog 21 #[.pointer (some ⟨g, 0, none⟩), .int .i64 9] w fun e w' => e = .returned (.pointer (some ⟨b, 0, none⟩)) ∧ Keep Zero w w' := by
  have c0 : w.cell? ⟨g, 0, none⟩ = some (.slice (some ⟨a, 0, none⟩) 1 c) := h.top.cell 0
  have glt := h.top.lt
  have alt := h.alt
  have blt := h.low.lt
  have m := Lib.hid h.mid
  have l : Hid (w.cell? ⟨b, 0, none⟩ = some (.int .i64 9)) := h.low.cell 0
  clear h
  have k0 : Hid (Keep Zero w (w.alloc (.cells #[.int .i64 9] 3))) := (Keep.refl Zero w).alloc _
  go_enter Try.func21, Try.ntmps21
  go_wp2_with fail
  have hq : (w.alloc (.cells #[.int .i64 9] 3)).cell? ⟨w.heap.size, 0, none⟩ = some (.int .i64 9) := (Blk.new w #[.int .i64 9] 3).cell 0
  refine (IndexFunc_1 a b c _ _ ((k0.out.cell (p := ⟨a, 0, none⟩) alt id).trans m.out) ((k0.out.cell (p := ⟨b, 0, none⟩) blt id).trans l.out) hq).mono ?_
  rintro e w' ⟨rfl, hk⟩
  have HK : Hid (Keep Zero w w') := k0.out.trans hk (fun i hi => hi.elim)
  have c1 := (HK.out.cell (p := ⟨g, 0, none⟩) glt id).trans c0
  have c2 := (HK.out.cell (p := ⟨a, 0, none⟩) alt id).trans m.out
  clear hk hq
  go_wp2_with fail
  go_ret
  exact ⟨rfl, HK.out⟩

theorem tells_any {w : World} {b : Nat} {t : Wt} (h : Blk w b t.cells 85) (k s : Int) :
    Calls Try.prog 22 #[.pointer (some ⟨b, 0, none⟩), .int .i64 k, .int .i64 s] w fun e w' => (∃ A n c, e = .returned (.slice A n c)) ∧ Keep Zero w w' := by
  have c0 : w.cell? ⟨b, 0, none⟩ = some (.int .i64 9) := h.cell 0
  clear h
  go_enter Try.func22, Try.ntmps22
  go_wp2
  go_ret
  exact ⟨⟨_, _, _, rfl⟩, (Keep.refl _ _).alloc _⟩
end Go.Proofs.Ytcmfcnljdeddfaa.Beat
