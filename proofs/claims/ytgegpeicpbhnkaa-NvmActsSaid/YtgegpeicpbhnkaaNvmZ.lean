/- One act at both chips: a page is written; what is kept is read. -/
import Derived.Test.YtgegpeicpbhnkaaNvmY
import Derived.Lib.Walk
namespace Go.Proofs.Ytgegpeicpbhnkaa.Nvm
open Go.RowKit Go.Proofs.Ytgegpeicpbhnkaa.Own Go.Proofs.Ytgegpeicpbhnkaa.Crc
theorem far_x {wr : World} {g p d q : Nat} (h : wr.heap.size ≠ g ∧ wr.heap.size ≠ p ∧ wr.heap.size ≠ d ∧ wr.heap.size ≠ q) : ¬ Chp g p wr.heap.size ∧ ¬ Chp d q wr.heap.size :=
  ⟨fun e => e.elim h.1 h.2.1, fun e => e.elim h.2.2.1 h.2.2.2⟩
theorem sizes_x {w wr : World} {g p d q : Nat} {c : Ch} (h : SD w wr g p d q c) : wr.heap.size ≠ g ∧ wr.heap.size ≠ p ∧ wr.heap.size ≠ d ∧ wr.heap.size ≠ q := by
  have h1 := h.ch.chip.lt
  have h2 := h.ch.pages.lt
  have h3 := h.dc.chip.lt
  have h4 : q < wr.heap.size := h.dc.pages.lt
  rw [h.pg] at h2
  omega
set_option maxRecDepth 100000 in
set_option maxHeartbeats 16000000 in
theorem does_write {w wr : World} {g p d q : Nat} {c : Ch} (h : SD w wr g p d q c) (n k : Int) (F : Nat → Int) (hF : ∀ i, 0 ≤ F i ∧ F i ≤ 255) (B : Option Addr) (nb cb : Nat) (kind : Int) (hkd : kind = 0) :
    Calls Try.prog 18 #[.pointer (some ⟨g, 0, none⟩), .pointer (some ⟨d, 0, none⟩), .agg (actC kind n k F B nb cb)] wr (Did w g p d q) := by
  subst hkd
  have HFar := Lib.hid (far_x (sizes_x h))
  have HFb := Lib.hid hF
  have HBx : Hid (Blk (wr.alloc (.cells (actC 0 n k F B nb cb) 46)).drew wr.heap.size (actC 0 n k F B nb cb) 46) := Lib.hid (Blk.drew (Blk.new _ _ _))
  have H := Lib.hid ((h.zero ((Keep.refl Zero wr).alloc (.cells (actC 0 n k F B nb cb) 46))).zero ((Keep.refl Zero _).drew))
  have HCl : Hid (∀ w', Blk w' wr.heap.size (actC 0 n k F B nb cb) 46 → w'.cell? ⟨wr.heap.size, 1, none⟩ = some (.int .i64 n) ∧ w'.cell? ⟨wr.heap.size, 3, none⟩ = some (.int .u8 (F 0)) ∧ w'.cell? ⟨wr.heap.size, 4, none⟩ = some (.int .u8 (F 1)) ∧ w'.cell? ⟨wr.heap.size, 5, none⟩ = some (.int .u8 (F 2)) ∧ w'.cell? ⟨wr.heap.size, 6, none⟩ = some (.int .u8 (F 3)) ∧ w'.cell? ⟨wr.heap.size, 7, none⟩ = some (.int .u8 (F 4)) ∧ w'.cell? ⟨wr.heap.size, 8, none⟩ = some (.int .u8 (F 5)) ∧ w'.cell? ⟨wr.heap.size, 9, none⟩ = some (.int .u8 (F 6)) ∧ w'.cell? ⟨wr.heap.size, 10, none⟩ = some (.int .u8 (F 7))) := Lib.hid (fun w' hb =>
    ⟨hb.cell 1, hb.cell 3, hb.cell 4, hb.cell 5, hb.cell 6, hb.cell 7, hb.cell 8, hb.cell 9, hb.cell 10⟩)
  obtain ⟨r, hr⟩ : ∃ r, r = (c.write n F).1 := ⟨_, rfl⟩
  have HR := Lib.hid hr
  have hrr : (r == r) = true := by simp
  clear h hF hr
  unfold actC at H
  unfold actC
  go_enter Try.func18, Try.ntmps18
  go_wp2_with fail
  go_region_held3 (fun w' => w'.cell? ⟨wr.heap.size, 1, none⟩ = some (.int .i64 n) ∧ w'.cell? ⟨wr.heap.size, 3, none⟩ = some (.int .u8 (F 0)) ∧ w'.cell? ⟨wr.heap.size, 4, none⟩ = some (.int .u8 (F 1)) ∧ w'.cell? ⟨wr.heap.size, 5, none⟩ = some (.int .u8 (F 2)) ∧ w'.cell? ⟨wr.heap.size, 6, none⟩ = some (.int .u8 (F 3)) ∧ w'.cell? ⟨wr.heap.size, 7, none⟩ = some (.int .u8 (F 4)) ∧ w'.cell? ⟨wr.heap.size, 8, none⟩ = some (.int .u8 (F 5)) ∧ w'.cell? ⟨wr.heap.size, 9, none⟩ = some (.int .u8 (F 6)) ∧ w'.cell? ⟨wr.heap.size, 10, none⟩ = some (.int .u8 (F 7))) (first | exact HCl.out _ HB3.out | exact HCl.out _ HB2.out | exact HCl.out _ HBx.out | (go_keep; done)) (first | (go_at_call 24; refine (X_write H.out n F HFb.out r HR.out).mono ?_; rintro e w2 ⟨rfl, HS2⟩; have HB2 := Lib.hid (HBx.out.keep HS2.out.2 HFar.out.1)) | (go_at_call 25; refine (X_dwrite n F HS2.out.1 HFb.out r HR.out).mono ?_; rintro e w3 ⟨rfl, HS3⟩; have HB3 := Lib.hid (HB2.out.keep HS3.out.2 HFar.out.2)))
  go_wp2_with fail
  go_ret
  exact ⟨rfl, _, HS3.out.1⟩
set_option maxRecDepth 100000 in
set_option maxHeartbeats 16000000 in
theorem does_load {w wr : World} {g p d q : Nat} {c : Ch} (h : SD w wr g p d q c) (n k : Int) (F : Nat → Int) (B : Option Addr) (nb cb : Nat) (kind : Int) (hkd : kind = 5) :
    Calls Try.prog 18 #[.pointer (some ⟨g, 0, none⟩), .pointer (some ⟨d, 0, none⟩), .agg (actC kind n k F B nb cb)] wr (Did w g p d q) := by
  subst hkd
  have H := Lib.hid (h.zero ((Keep.refl Zero wr).alloc (.cells (actC 5 n k F B nb cb) 46)))
  obtain ⟨xs, hxs⟩ : ∃ xs, (keptF c.P c.n).1 = xs := ⟨_, rfl⟩
  obtain ⟨k', hk'⟩ : ∃ k', (keptF c.P c.n).2.1 = k' := ⟨_, rfl⟩
  have HX := Lib.hid hxs
  have HK := Lib.hid hk'
  clear h hxs hk'
  unfold actC at H
  unfold actC
  go_enter Try.func18, Try.ntmps18
  go_wp2_with fail
  refine (X_load H.out xs k' HX.out HK.out).mono ?_
  rintro e w2 ⟨A2, m2, rfl, HS2⟩
  go_wp2_with fail
  refine (X_kept HS2.out.2.1 xs k' HX.out HK.out).mono ?_
  rintro e w3 ⟨A3, m3, v, rfl, HS3⟩
  have r1 : Sem.run Try.prog (convert 22 9 (.slice A2 xs.length m2)) w3 = .ok (.string (str xs)) w3 := run_str under22 under5 under9 (HS2.out.1.keep HS3.out.2.2 (fun _ _ _ => id)) xs.length rfl
  have r2 : Sem.run Try.prog (convert 22 9 (.slice A3 xs.length m3)) w3 = .ok (.string (str xs)) w3 := run_str under22 under5 under9 HS3.out.1 xs.length rfl
  have hd : (decide (0 < k') == decide (0 < k')) = true := by simp
  go_wp2_with fail
  go_ret
  exact ⟨rfl, _, HS3.out.2.1⟩
end Go.Proofs.Ytgegpeicpbhnkaa.Nvm
