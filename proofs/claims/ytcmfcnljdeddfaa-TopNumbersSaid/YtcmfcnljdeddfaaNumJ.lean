/- Slaves are made: the program's, and the document's. -/
import Derived.Test.YtcmfcnljdeddfaaNumI
namespace Go.Proofs.Ytcmfcnljdeddfaa.Num
open Go.RowKit Go.Proofs.Ytcmfcnljdeddfaa.Own Go.Proofs.Ytcmfcnljdeddfaa.Crc
def addrV (A : Nat → Int) : Value := .agg #[.int .u32 (A 0), .int .u32 (A 1), .int .u32 (A 2), .int .u32 (A 3)]
def freshS (A : Nat → Int) : Sl := ⟨A, 0, 0, 0, 0⟩
theorem New_0 (w : World) (A : Nat → Int) : Calls Try.prog 23 #[addrV A, .int .i64 0] w fun e w' => ∃ g, e = .returned (.tuple #[.pointer (some ⟨g, 0, none⟩), .int .i64 0]) ∧ Hid (IsSl w' g (freshS A) ∧ w.heap.size ≤ g ∧ Keep Own.Zero w w') := by
  unfold addrV
  go_enter Try.func23, Try.ntmps23
  go_wp2_with fail
  go_ret2
  exact ⟨w.heap.size + 1, rfl, Lib.hid ⟨Blk.at_ (by simp), by omega, ((Keep.refl _ _).alloc _).alloc _⟩⟩
/-- The document's slave: its address. -/
def IsDs (w : World) (d : Nat) (A : Nat → Int) : Prop := ∃ cs, Blk w d cs 65 ∧ ∀ k, k < 4 → cs[k]? = some (.int .u32 (A k))
theorem IsDs.keep {S : Nat → Prop} {w w1 : World} {d : Nat} {A : Nat → Int} (h : IsDs w d A) (k : Keep S w w1) (hn : ¬ S d) : IsDs w1 d A := by
  obtain ⟨cs, hb, hc⟩ := h
  exact ⟨cs, hb.keep k hn, hc⟩
theorem DsNew_0 (w : World) (A : Nat → Int) : Calls Try.prog 24 #[addrV A, .int .i64 0] w fun e w' => ∃ d, e = .returned (.tuple #[.pointer (some ⟨d, 0, none⟩), .int .i64 0]) ∧ Hid (IsDs w' d A ∧ w.heap.size ≤ d ∧ Keep Own.Zero w w') := by
  unfold addrV
  go_enter Try.func24, Try.ntmps24
  go_wp2_with fail
  go_ret2
  refine ⟨w.heap.size + 1, rfl, Lib.hid ⟨⟨_, Blk.at_ (by simp), fun k hk => ?_⟩, by omega, ((Keep.refl _ _).alloc _).alloc _⟩⟩
  match k, hk with
  | 0, _ => rfl
  | 1, _ => rfl
  | 2, _ => rfl
  | 3, _ => rfl
theorem ID_any {w : World} {g : Nat} {s : Sl} (h : IsSl w g s) : Calls Try.prog 19 #[.pointer (some ⟨g, 0, none⟩)] w fun e w' => e = .returned (.tuple #[.int .i64 s.pid, .int .i64 s.uid]) ∧ Keep Own.Zero w w' := by
  obtain ⟨c4, c6, c8, c10, f4, f6, f8, f10, gl⟩ := h.facts
  clear h
  go_enter Try.func19, Try.ntmps19
  go_wp2_with fail
  go_quiet (fail)
  go_wp2_with fail
  go_ret2
  exact ⟨rfl, (Keep.refl _ _).drewN _⟩
theorem under60 : Try.prog.underlying 60 = some (.slice 71) := by kernel_rfl
theorem under61 : Try.prog.underlying 61 = some (.slice 66) := by kernel_rfl
theorem info71 : (Try.prog.info? 71).map (fun i => (i.zero, i.size, i.bytes)) = some (some (.pointer none), 1, 8) := by kernel_rfl
theorem info66 : (Try.prog.info? 66).map (fun i => (i.zero, i.size, i.bytes)) = some (some (.pointer none), 1, 8) := by kernel_rfl
theorem own_ty {w : World} {base : Nat} {e : TypeId} {size n : Nat} {v : Value} {vs : List Value} (h : w.ownsRow base e size v n vs) {k : Nat} (hk : v.ownBlock = some k) : ∃ cs, Blk w k cs e := by
  obtain ⟨_, ⟨rfl, _⟩ | ⟨g, cap, cur, rfl, hb, hh, _⟩⟩ := h
  · simp [Value.ownBlock] at hk
  · simp only [Value.ownBlock, Option.some.injEq] at hk
    subst hk
    exact ⟨cur, hh⟩
theorem Blk.ne_ty {w : World} {g k : Nat} {cs cs' : Array Value} {T T' : TypeId} (h : Blk w g cs T) (h' : Blk w k cs' T') (hn : T ≠ T') : g ≠ k := by
  rintro rfl
  unfold Blk at h h'
  rw [h] at h'
  cases h'
  exact hn rfl
theorem own_far {w : World} {base : Nat} {e : TypeId} {size n : Nat} {v : Value} {vs : List Value} (h : w.ownsRow base e size v n vs) {g : Nat} {cs : Array Value} {T : TypeId} (hb : Blk w g cs T) (hn : T ≠ e) : v.ownBlock ≠ some g := fun e1 => by
  obtain ⟨cs2, h2⟩ := own_ty h e1
  exact Blk.ne_ty hb h2 hn rfl
/-- Another row grows. -/
theorem own_grown {w w1 : World} {base : Nat} {e : TypeId} {size n : Nat} {v : Value} {vs : List Value} {row : Option Nat} (h : w.ownsRow base e size v n vs) (hg : w.grownBy w1 row) (hn : ∀ k, v.ownBlock = some k → row ≠ some k) : w1.ownsRow base e size v n vs := by
  obtain ⟨hl, h | ⟨g, cap, cur, hv, hb, hh, r⟩⟩ := h
  · exact ⟨hl, .inl h⟩
  · have hk : v.ownBlock = some g := by rw [hv]; rfl
    exact ⟨hl, .inr ⟨g, cap, cur, hv, hb, (hg.block g (Array.getElem?_eq_some_iff.1 hh).1 (fun e => hn g hk e.symm)).trans hh, r⟩⟩
end Go.Proofs.Ytcmfcnljdeddfaa.Num
