/- The two chips' calls, side by side. -/
import Derived.Test.YtgegpeicpbhnkaaNvmW
namespace Go.Proofs.Ytgegpeicpbhnkaa.Nvm
open Go.RowKit Go.Proofs.Ytgegpeicpbhnkaa.Own Go.Proofs.Ytgegpeicpbhnkaa.Crc
variable {w wr : World} {g p d q : Nat} {c c2 : Ch}
theorem X_cut (h : SD w wr g p d q c) (k : Int) (hk : k ≤ 9223372036854775807) : Calls Try.prog 13 #[.pointer (some ⟨g, 0, none⟩), .int .i64 k] wr fun e w' => e = .returned (.tuple #[]) ∧ Hid (SH w w' g p d q c (c.cut k)) := by
  refine (Cut_any h.ch k hk).mono ?_
  rintro e w' ⟨he, h1, h2⟩
  exact ⟨he, h.prog (h2.mono (fun i hi => .inl hi)) h1 h.pg⟩
theorem X_dcut (k : Int) (h : SH w wr g p d q c (c.cut k)) (hk : k ≤ 9223372036854775807) : Calls Try.prog 26 #[.pointer (some ⟨d, 0, none⟩), .int .i64 k] wr fun e w' => e = .returned (.tuple #[]) ∧ Hid (SD w w' g p d q (c.cut k)) := by
  refine (DCut_any h.dc k hk).mono ?_
  rintro e w' ⟨he, h1, h2⟩
  exact ⟨he, h.doc (h2.mono (fun i hi => .inl hi)) h1⟩
theorem X_power (h : SD w wr g p d q c) : Calls Try.prog 15 #[.pointer (some ⟨g, 0, none⟩)] wr fun e w' => e = .returned (.tuple #[]) ∧ Hid (SH w w' g p d q c c.power) := by
  refine (Power_any h.ch).mono ?_
  rintro e w' ⟨he, h1, h2⟩
  exact ⟨he, h.prog (h2.mono (fun i hi => .inl hi)) h1 h.pg⟩
theorem X_erase (h : SD w wr g p d q c) (r : Int) (hr : r = if c.erase.1 then 0 else 6) : Calls Try.prog 16 #[.pointer (some ⟨g, 0, none⟩)] wr fun e w' => e = .returned (.int .i64 r) ∧ Hid (SH w w' g p d q c c.erase.2) := by
  refine (Erase_any h.ch).mono ?_
  rintro e w' ⟨he, h2⟩
  rw [h.pg] at h2
  exact ⟨by rw [he, hr], h.prog h2.out.2 h2.out.1 ((erase_pg c).trans h.pg)⟩
theorem X_derase (h : SH w wr g p d q c c.erase.2) (r : Int) (hr : r = if c.erase.1 then 0 else 6) : Calls Try.prog 29 #[.pointer (some ⟨d, 0, none⟩)] wr fun e w' => e = .returned (.int .i64 r) ∧ Hid (SD w w' g p d q c.erase.2) := by
  refine (DErase_any h.dc).mono ?_
  rintro e w' ⟨he, h2⟩
  have h3 := h2.out
  rw [erase_on] at he h3
  exact ⟨by rw [he, hr], h.doc h3.2 h3.1⟩
theorem X_write (h : SD w wr g p d q c) (k : Int) (b : Nat → Int) (hb : ∀ i, 0 ≤ b i ∧ b i ≤ 255) (r : Bool) (hr : r = (c.write k b).1) :
    Calls Try.prog 24 #[.pointer (some ⟨g, 0, none⟩), .int .i64 k, .agg #[.int .u8 (b 0), .int .u8 (b 1), .int .u8 (b 2), .int .u8 (b 3), .int .u8 (b 4), .int .u8 (b 5), .int .u8 (b 6), .int .u8 (b 7)]] wr fun e w' => e = .returned (.bool r) ∧ Hid (SH w w' g p d q c (c.write k b).2 ∧ Keep (Chp g p) wr w') := by
  refine (Write_h h.ch k b hb p h.pg (c.write k b).1 (c.write k b).2 rfl).mono ?_
  rintro e w' ⟨he, h2⟩
  exact ⟨by rw [he, hr], h.prog h2.out.2 h2.out.1 ((write_pn c k b).1.trans h.pg), h2.out.2⟩
theorem X_dwrite (k : Int) (b : Nat → Int) (h : SH w wr g p d q c (c.write k b).2) (hb : ∀ i, 0 ≤ b i ∧ b i ≤ 255) (r : Bool) (hr : r = (c.write k b).1) :
    Calls Try.prog 25 #[.pointer (some ⟨d, 0, none⟩), .int .i64 k, .agg #[.int .u8 (b 0), .int .u8 (b 1), .int .u8 (b 2), .int .u8 (b 3), .int .u8 (b 4), .int .u8 (b 5), .int .u8 (b 6), .int .u8 (b 7)]] wr fun e w' => e = .returned (.bool r) ∧ Hid (SD w w' g p d q (c.write k b).2 ∧ Keep (Chp d q) wr w') := by
  refine (DWrite_h h.dc k b hb q rfl (c.write k b).1 ((c.write k b).2.on q) (write_on c q k b)).mono ?_
  rintro e w' ⟨he, h2⟩
  exact ⟨by rw [he, hr], h.doc h2.out.2.2.2 h2.out.1, h2.out.2.2.2⟩
theorem X_save (h : SD w wr g p d q c) (A : Option Addr) (m : Nat) (xs : List Int) (n : Nat) (hn : n = xs.length) (hx : Src wr g p A m xs) (hb : ∀ x ∈ xs, 0 ≤ x ∧ x ≤ 255) (hbig : n ≤ 140737488355328) (r : Int) (hr : r = (saveF c xs).1) :
    Calls Try.prog 9 #[.pointer (some ⟨g, 0, none⟩), .slice A n m] wr fun e w' => e = .returned (.int .i64 r) ∧ Hid (SH w w' g p d q c (saveF c xs).2 ∧ Keep (Chp g p) wr w') := by
  subst hn
  refine (Save_any h.ch A m xs (by rw [h.pg]; exact hx) hb hbig).mono ?_
  rintro e w' ⟨he, h2⟩
  have h3 := h2.out
  rw [h.pg] at h3
  exact ⟨by rw [he, hr], h.prog h3.2.1 h3.1 h3.2.2, h3.2.1⟩
theorem X_dsave (xs : List Int) (h : SH w wr g p d q c (saveF c xs).2) (A : Option Addr) (m : Nat) (n : Nat) (hn : n = xs.length) (hx : Srd wr d q A m xs) (hb : ∀ x ∈ xs, 0 ≤ x ∧ x ≤ 255) (hbig : n ≤ 140737488355328) (r : Int) (hr : r = (saveF c xs).1) :
    Calls Try.prog 27 #[.pointer (some ⟨d, 0, none⟩), .slice A n m] wr fun e w' => e = .returned (.int .i64 r) ∧ Hid (SD w w' g p d q (saveF c xs).2 ∧ Keep (Chp d q) wr w') := by
  subst hn
  refine (DSave_any h.dc A m xs hx hb hbig).mono ?_
  rintro e w' ⟨he, h2⟩
  have h3 := h2.out
  rw [saveF_on] at he h3
  exact ⟨by rw [he, hr], h.doc h3.2.1 h3.1, h3.2.1⟩
def LoadedX (w wr : World) (g p d q : Nat) (c : Ch) (xs : List Int) (k : Int) (e : Ending) (w' : World) : Prop := ∃ A m, e = .returned (.tuple #[.slice A xs.length m, .bool (decide (0 < k))]) ∧ Hid (Row w' A (ints .u8 xs) ∧ SD w w' g p d q c ∧ Keep Zero wr w')
theorem X_load (h : SD w wr g p d q c) (xs : List Int) (k : Int) (hx : (keptF c.P c.n).1 = xs) (hk : (keptF c.P c.n).2.1 = k) : Calls Try.prog 10 #[.pointer (some ⟨g, 0, none⟩)] wr (LoadedX w wr g p d q c xs k) := by
  refine (Load_any h.ch).mono ?_
  rintro e w' hp
  unfold LoadPost at hp
  rw [hx, hk] at hp
  obtain ⟨A, m, rfl, h1, _, _, h4, _⟩ := hp
  exact ⟨A, m, rfl, h1, h.zero h4, h4⟩
def KeptX (w wr : World) (g p d q : Nat) (c : Ch) (xs : List Int) (k : Int) (e : Ending) (w' : World) : Prop := ∃ A m v, e = .returned (.tuple #[.slice A xs.length m, .int .i64 k, .int .i64 v]) ∧ Hid (Row w' A (ints .u8 xs) ∧ SD w w' g p d q c ∧ Keep Zero wr w')
theorem X_kept (h : SD w wr g p d q c) (xs : List Int) (k : Int) (hx : (keptF c.P c.n).1 = xs) (hk : (keptF c.P c.n).2.1 = k) : Calls Try.prog 28 #[.pointer (some ⟨d, 0, none⟩)] wr (KeptX w wr g p d q c xs k) := by
  have hkk := dkept_kept c.P c.n h.ch.wf
  refine (DKept_any h.dc).mono ?_
  rintro e w' hp
  unfold KeptPost at hp
  rw [show (c.on q).P = c.P from rfl, show (c.on q).n = c.n from rfl, hkk.1, hkk.2.1, hx, hk] at hp
  obtain ⟨A, m, rfl, h1, _, _, h4, _⟩ := hp
  exact ⟨A, m, _, rfl, h1, h.zero h4, h4⟩
end Go.Proofs.Ytgegpeicpbhnkaa.Nvm
