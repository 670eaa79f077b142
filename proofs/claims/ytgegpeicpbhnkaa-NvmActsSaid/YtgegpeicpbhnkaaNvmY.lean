/- One act at both chips. -/
import Derived.Test.YtgegpeicpbhnkaaNvmX
import Derived.Deep.RegionHeld3
namespace Go.Proofs.Ytgegpeicpbhnkaa.Nvm
open Go.RowKit Go.Proofs.Ytgegpeicpbhnkaa.Own Go.Proofs.Ytgegpeicpbhnkaa.Crc
def actC (kind n k : Int) (F : Nat → Int) (B : Option Addr) (nb cb : Nat) : Array Value := #[.int .i64 kind, .int .i64 n, .int .i64 k, .int .u8 (F 0), .int .u8 (F 1), .int .u8 (F 2), .int .u8 (F 3), .int .u8 (F 4), .int .u8 (F 5), .int .u8 (F 6), .int .u8 (F 7), .slice B nb cb]
def Did (w : World) (g p d q : Nat) (e : Ending) (w' : World) : Prop := e = .returned (.bool true) ∧ ∃ c', Hid (SD w w' g p d q c')
set_option maxHeartbeats 8000000 in
theorem does_cut {w wr : World} {g p d q : Nat} {c : Ch} (h : SD w wr g p d q c) (n k : Int) (F : Nat → Int) (hF : ∀ i, 0 ≤ F i ∧ F i ≤ 255) (B : Option Addr) (nb cb : Nat) (hk : k ≤ 9223372036854775807) (kind : Int) (hkd : kind = 2) :
    Calls Try.prog 18 #[.pointer (some ⟨g, 0, none⟩), .pointer (some ⟨d, 0, none⟩), .agg (actC kind n k F B nb cb)] wr (Did w g p d q) := by
  subst hkd
  obtain ⟨kind, hkind⟩ : ∃ kind : Int, kind = 2 := ⟨_, rfl⟩
  rw [← hkind]
  have H := Lib.hid (h.zero ((Keep.refl Zero wr).alloc (.cells (actC kind n k F B nb cb) 46)))
  have HFb := Lib.hid hF
  have hw := h.ch.chip.lt
  have HW : Hid (wr.heap.size ≠ g ∧ wr.heap.size ≠ p ∧ wr.heap.size ≠ d ∧ wr.heap.size ≠ q) := Lib.hid (by
    have h1 := h.ch.chip.lt
    have h2 := h.ch.pages.lt
    have h3 := h.dc.chip.lt
    have h4 : q < wr.heap.size := h.dc.pages.lt
    rw [h.pg] at h2
    omega)
  clear h hF
  unfold actC at H
  subst hkind
  unfold actC
  have HCx : Hid (∀ w', Keep (Chp g p) (wr.alloc (.cells #[.int .i64 2, .int .i64 n, .int .i64 k, .int .u8 (F 0), .int .u8 (F 1), .int .u8 (F 2), .int .u8 (F 3), .int .u8 (F 4), .int .u8 (F 5), .int .u8 (F 6), .int .u8 (F 7), .slice B nb cb] 46)) w' → w'.cell? ⟨wr.heap.size, 2, none⟩ = some (.int .i64 k)) := Lib.hid (fun w' hk => (Blk.keep (Blk.new _ _ _) hk (fun e => by rcases e with e | e; exact HW.out.1 e; exact HW.out.2.1 e)).cell 2)
  go_enter Try.func18, Try.ntmps18
  go_wp2_with fail
  refine (Cut_any H.out.ch k hk).mono ?_
  rintro e w2 ⟨rfl, h1, h2⟩
  have h3 : Keep (Chp g p) _ w2 := h2.mono (fun i hi => .inl hi)
  have c2 := HCx.out w2 h3
  have HS := Lib.hid (H.out.prog h3 h1 H.out.pg)
  have lb := World.block_lt_of_cell? w2 _ c2
  clear h1 h2 h3
  go_wp2_with fail
  refine (X_dcut k HS.out hk).mono ?_
  rintro e w3 ⟨rfl, HS3⟩
  go_wp2_with fail
  go_ret
  exact ⟨rfl, _, HS3⟩
set_option maxHeartbeats 8000000 in
theorem does_erase {w wr : World} {g p d q : Nat} {c : Ch} (h : SD w wr g p d q c) (n k : Int) (F : Nat → Int) (hF : ∀ i, 0 ≤ F i ∧ F i ≤ 255) (B : Option Addr) (nb cb : Nat) (kind : Int) (hkd : kind = 6) :
    Calls Try.prog 18 #[.pointer (some ⟨g, 0, none⟩), .pointer (some ⟨d, 0, none⟩), .agg (actC kind n k F B nb cb)] wr (Did w g p d q) := by
  have H := Lib.hid (h.zero ((Keep.refl Zero wr).alloc (.cells (actC kind n k F B nb cb) 46)))
  have HFb := Lib.hid hF
  have hw := h.ch.chip.lt
  have HW : Hid (wr.heap.size ≠ g ∧ wr.heap.size ≠ p ∧ wr.heap.size ≠ d ∧ wr.heap.size ≠ q) := Lib.hid (by
    have h1 := h.ch.chip.lt
    have h2 := h.ch.pages.lt
    have h3 := h.dc.chip.lt
    have h4 : q < wr.heap.size := h.dc.pages.lt
    rw [h.pg] at h2
    omega)
  clear h hF
  unfold actC at H
  subst hkd
  unfold actC
  obtain ⟨r, hr⟩ : ∃ r : Int, r = if c.erase.1 then 0 else 6 := ⟨_, rfl⟩
  have HR := Lib.hid hr
  have hrr : (r == r) = true := by simp
  clear hr
  go_enter Try.func18, Try.ntmps18
  go_wp2_with fail
  refine (X_erase H.out r HR.out).mono ?_
  rintro e w2 ⟨rfl, HS⟩
  go_wp2_with fail
  refine (X_derase HS.out r HR.out).mono ?_
  rintro e w3 ⟨rfl, HS3⟩
  go_wp2_with fail
  go_ret
  exact ⟨rfl, _, HS3⟩
set_option maxHeartbeats 8000000 in
theorem does_none {w wr : World} {g p d q : Nat} {c : Ch} (h : SD w wr g p d q c) (n k : Int) (F : Nat → Int) (hF : ∀ i, 0 ≤ F i ∧ F i ≤ 255) (B : Option Addr) (nb cb : Nat) (kind : Int) (hkd : kind ≠ 0 ∧ kind ≠ 2 ∧ kind ≠ 3 ∧ kind ≠ 4 ∧ kind ≠ 5 ∧ kind ≠ 6) :
    Calls Try.prog 18 #[.pointer (some ⟨g, 0, none⟩), .pointer (some ⟨d, 0, none⟩), .agg (actC kind n k F B nb cb)] wr (Did w g p d q) := by
  have H := Lib.hid (h.zero ((Keep.refl Zero wr).alloc (.cells (actC kind n k F B nb cb) 46)))
  have HFb := Lib.hid hF
  have hw := h.ch.chip.lt
  have HW : Hid (wr.heap.size ≠ g ∧ wr.heap.size ≠ p ∧ wr.heap.size ≠ d ∧ wr.heap.size ≠ q) := Lib.hid (by
    have h1 := h.ch.chip.lt
    have h2 := h.ch.pages.lt
    have h3 := h.dc.chip.lt
    have h4 : q < wr.heap.size := h.dc.pages.lt
    rw [h.pg] at h2
    omega)
  clear h hF
  unfold actC at H
  unfold actC
  have b0 : (kind == 0) = false := by simp [hkd]
  have b2 : (kind == 2) = false := by simp [hkd]
  have b3 : (kind == 3) = false := by simp [hkd]
  have b4 : (kind == 4) = false := by simp [hkd]
  have b5 : (kind == 5) = false := by simp [hkd]
  have b6 : (kind == 6) = false := by simp [hkd]
  clear hkd
  go_enter Try.func18, Try.ntmps18
  go_wp2_with fail
  go_ret
  exact ⟨rfl, _, H⟩
set_option maxHeartbeats 8000000 in
theorem does_power {w wr : World} {g p d q : Nat} {c : Ch} (h : SD w wr g p d q c) (n k : Int) (F : Nat → Int) (hF : ∀ i, 0 ≤ F i ∧ F i ≤ 255) (B : Option Addr) (nb cb : Nat) (kind : Int) (hkd : kind = 3) :
    Calls Try.prog 18 #[.pointer (some ⟨g, 0, none⟩), .pointer (some ⟨d, 0, none⟩), .agg (actC kind n k F B nb cb)] wr (Did w g p d q) := by
  have H := Lib.hid (h.zero ((Keep.refl Zero wr).alloc (.cells (actC kind n k F B nb cb) 46)))
  have HFb := Lib.hid hF
  have hw := h.ch.chip.lt
  have HW : Hid (wr.heap.size ≠ g ∧ wr.heap.size ≠ p ∧ wr.heap.size ≠ d ∧ wr.heap.size ≠ q) := Lib.hid (by
    have h1 := h.ch.chip.lt
    have h2 := h.ch.pages.lt
    have h3 := h.dc.chip.lt
    have h4 : q < wr.heap.size := h.dc.pages.lt
    rw [h.pg] at h2
    omega)
  clear h hF
  unfold actC at H
  subst hkd
  unfold actC
  go_enter Try.func18, Try.ntmps18
  go_wp2_with fail
  refine (X_power H.out).mono ?_
  rintro e w2 ⟨rfl, HS⟩
  have c1 : w2.cell? ⟨d, 1, none⟩ = some (.int .i64 c.left) := HS.out.dc.chip.cell 1
  have c2 : w2.cell? ⟨d, 2, none⟩ = some (.bool c.dead) := HS.out.dc.chip.cell 2
  have f1 := HS.out.dc.chip.frozen 1
  have f2 := HS.out.dc.chip.frozen 2
  go_wp2_with fail
  go_ret
  have hk : Keep (Chp d q) w2 ((w2.setCell ⟨d, 2, none⟩ (.bool false)).setCell ⟨d, 1, none⟩ (.int .i64 (-1))) := ((Keep.refl _ _).set (.inl (.inl rfl)) _).set (.inl (.inl rfl)) _
  refine ⟨rfl, _, HS.out.doc hk ⟨?_, ?_, HS.out.dc.ne, HS.out.dc.wf, HS.out.dc.n0, HS.out.dc.n1, by simp [Ch.power, Ch.on], by simp [Ch.power, Ch.on]⟩⟩
  · exact ((HS.out.dc.chip.set 2 _).set 1 _).cast (by simp [Ch.cells, Ch.power, Ch.on])
  · exact (HS.out.dc.pages.keep (((Keep.refl (Own.One d) w2).set1 2 _).set1 1 _) HS.out.dc.ne)
end Go.Proofs.Ytgegpeicpbhnkaa.Nvm
