/- The sender: what NewSender, segments, Done come to. -/
import Derived.Test.YtdmomhbimhggiaaBlockA
import Derived.Outline
import Derived.BigRegion
import Derived.Deep.RegionHeld
namespace Go.Proofs.Ytdmomhbimhggiaa.Block
open Go.RowKit Go.Proofs.Ytdmomhbimhggiaa.Own Go.Proofs.Ytdmomhbimhggiaa.Crc
theorem under22 : Try.prog.underlying 22 = some (.slice 5) := by kernel_rfl
theorem under23 : Try.prog.underlying 23 = some (.slice 30) := by kernel_rfl
theorem under5 : Try.prog.underlying 5 = some (.int .u8) := by kernel_rfl
theorem under9 : Try.prog.underlying 9 = some .string := by kernel_rfl
theorem info5 : (Try.prog.info? 5).map (fun i => (i.zero, i.size, i.bytes)) = some (some (.int .u8 0), 1, 1) := by kernel_rfl
/-- Bytes at a slice. -/
structure In (w : World) (A : Option Addr) (c : Nat) (xs : List Int) : Prop where
  row : Row w A (ints .u8 xs)
  nil : A = none → c = 0
  le : xs.length ≤ c
  byte : ∀ x ∈ xs, 0 ≤ x ∧ x ≤ 255
theorem In.keep {S : Nat → Prop} {w w1 : World} {A : Option Addr} {c : Nat} {xs : List Int} (h : In w A c xs) (k : Keep S w w1) (hs : ∀ a, A = some a → ¬ S a.block) : In w1 A c xs :=
  ⟨h.row.keep k (fun a ha _ => hs a ha), h.nil, h.le, h.byte⟩
theorem own_lt {w : World} {base : Nat} {e : TypeId} {size n m c : Nat} {a : Addr} {vs : List Value} (h : w.ownsRow base e size (.slice (some a) m c) n vs) : a.block < w.heap.size := by
  obtain ⟨_, ⟨hv, _⟩ | ⟨g, cap, cur, hv, hb, hh, r⟩⟩ := h
  · simp at hv
  · simp only [Value.slice.injEq, Option.some.injEq] at hv
    rw [hv.1]
    exact (Array.getElem?_eq_some_iff.1 hh).1
/-- slices.Clone of bytes: a copy in a block of its own, or nil. -/
theorem Clone_any {w : World} {A : Option Addr} {c : Nat} {xs : List Int} (h : In w A c xs) (hl : xs.length ≤ 140737488355328) (n : Nat) (hn : n = xs.length) :
    Calls Try.prog 20 #[.slice A n c] w fun e w' => ∃ A' c', e = .returned (.slice A' n c') ∧ In w' A' c' xs ∧ Keep Own.Zero w w' ∧ ∀ a, A' = some a → w.heap.size ≤ a.block ∧ a.block < w'.heap.size := by
  have HI := Lib.hid h
  have HN := Lib.hid hn
  have hb : n ≤ 140737488355328 := by omega
  rcases A with _ | a
  · have hc := h.nil rfl
    have hx : xs = [] := by
      have := h.le
      rw [hc] at this
      exact List.length_eq_zero_iff.1 (by omega)
    subst hc hx
    obtain rfl : n = 0 := hn
    have r1 : Sem.run Try.prog (binOp .eql 22 (.slice none 0 0) (.slice none 0 0)) w = .ok (.bool true) w := Lib.run_eql_slice_nil w 22 5 none 0 0 0 0 under22
    clear h hl
    go_enter Try.func20, Try.ntmps20
    go_wp2
    go_ret
    exact ⟨none, 0, rfl, HI.out, Keep.refl _ _, fun a h => by cases h⟩
  · clear h hn hl
    have HR1 : Hid (Row (w.alloc (.cells #[] 5)) (some a) (ints .u8 xs)) := Lib.hid (HI.out.row.keep ((Keep.refl Own.Zero w).alloc (.cells #[] 5)) (fun _ _ _ => id))
    have r1 : Sem.run Try.prog (binOp .eql 22 (.slice (some a) n c) (.slice none 0 0)) w = .ok (.bool false) w := Lib.run_eql_slice_nil w 22 5 (some a) n c 0 0 under22
    go_enter Try.func20, Try.ntmps20
    go_wp2_with (at_builtin; refine app_own rfl (.tmp 5) (.tmp 6) 22 rfl w.heap.size 5 (.int .u8 0) 1 1 under22 info5 rfl (by decide) (.slice (some ⟨w.heap.size, 0, none⟩) 0 0) 0 [] rfl (own_empty 1 (Blk.new w _ _)) (some a) n c (ints .u8 xs) rfl (by rw [ints_length, HN.out]; omega) HI.out.nil HR1.out (ints_one _ _) (by unfold maxLen; omega) (by omega) (by simp) ?_; intro v2 w2 hown2 hgr2)
    have HO := Lib.hid hown2
    have HG := Lib.hid hgr2
    clear hown2 hgr2
    go_wp2_with fail
    go_ret
    have hk : Keep Own.Zero w w2 := ((Keep.refl Own.Zero w).alloc _).grown HG.out (fun k hk => .inr (by cases hk; exact Nat.le_refl _))
    have ho := HO.out
    rw [Nat.zero_add, List.nil_append] at ho
    obtain ⟨A', c', rfl, hr, hc, hm, hb⟩ := Row.own ho
    refine ⟨A', c', rfl, ⟨hr, ?_, by rw [← HN.out]; exact hc, HI.out.byte⟩, hk, fun a ha => ⟨hb a ha, by subst ha; exact own_lt ho⟩⟩
    intro hA
    subst hA
    obtain ⟨_, ⟨hv, _⟩ | ⟨_, cap, cur, hv, _⟩⟩ := ho
    · simp only [Value.slice.injEq] at hv
      exact hv.2.2
    · simp at hv
structure Snd where
  A : Option Addr
  cap : Nat
  bs : List Int
  at' : Nat
  many : Nat
  begun : Bool
  ends : Bool
  done : Bool
  code : Int
def Snd.cells (s : Snd) : Array Value := #[.slice s.A s.bs.length s.cap, .int .i64 s.at', .int .i64 s.many, .bool s.begun, .bool s.ends, .bool s.done, .int .u32 s.code]
structure IsSnd (w : World) (g : Nat) (s : Snd) : Prop where
  blk : Blk w g s.cells 58
  inb : In w s.A s.cap s.bs
  far : ∀ a, s.A = some a → a.block ≠ g
  big : s.bs.length ≤ 65536
  atb : s.at' ≤ 100000
theorem IsSnd.keep {S : Nat → Prop} {w w1 : World} {g : Nat} {s : Snd} (h : IsSnd w g s) (k : Keep S w w1) (h1 : ¬ S g) (h2 : ∀ a, s.A = some a → ¬ S a.block) : IsSnd w1 g s :=
  ⟨h.blk.keep k h1, h.inb.keep k h2, h.far, h.big, h.atb⟩
theorem In.old {w : World} {A : Option Addr} {c : Nat} {xs : List Int} (h : In w A c xs) {a : Addr} (ha : A = some a) (hx : xs ≠ []) : a.block < w.heap.size := h.row.old ha (by simpa [ints] using hx)
/-- How many segments. -/
def segs (bs : List Int) : Nat := max ((bs.length + 6) / 7) 1
theorem segments_any {w : World} {g : Nat} {s : Snd} (h : IsSnd w g s) (m : Nat) (hm : m = segs s.bs) : Calls Try.prog 23 #[.pointer (some ⟨g, 0, none⟩)] w fun e w' => e = .returned (.int .i64 m) ∧ w = w' := by
  have c0 : w.cell? ⟨g, 0, none⟩ = some (.slice s.A s.bs.length s.cap) := h.blk.cell 0
  have hb := h.big
  obtain ⟨n, hn⟩ : ∃ n, n = s.bs.length := ⟨_, rfl⟩
  rw [← hn] at c0 hb
  have e : max (((n : Int) + 7 - 1) / 7) 1 = (m : Int) := by
    rw [hm]
    unfold segs
    omega
  have HE := Lib.hid e
  clear h hn hm e
  go_enter Try.func23, Try.ntmps23
  go_wp2
  · go_ret
    have h2 := HE.out
    exact ⟨by rw [show (m : Int) = 1 by omega]; rfl, rfl⟩
  · go_ret
    have h2 := HE.out
    exact ⟨by rw [show (m : Int) = ((n : Int) + 7 - 1) / 7 by omega]; rfl, rfl⟩
/-- A sender of some bytes. -/
theorem NewSender_ok {w : World} {A : Option Addr} {c : Nat} {xs : List Int} (h : In w A c xs) (hl : xs.length ≤ 65536) (n : Nat) (hn : n = xs.length) :
    Calls Try.prog 7 #[.slice A n c] w fun e w' => ∃ g A' c', e = .returned (.tuple #[.pointer (some ⟨g, 0, none⟩), .int .i64 0]) ∧ Hid (IsSnd w' g ⟨A', c', xs, 0, 0, false, false, false, 0⟩ ∧ Keep Own.Zero w w' ∧ w.heap.size ≤ g ∧ ∀ a, A' = some a → w.heap.size ≤ a.block ∧ a.block < w'.heap.size) := by
  have HI := Lib.hid h
  have HN := Lib.hid hn
  have hb : n ≤ 65536 := by omega
  have b1 : decide ((65536 : Int) < (n : Int)) = false := by simp; omega
  clear h hn hl
  go_enter Try.func7, Try.ntmps7
  go_wp2_with fail
  refine (Clone_any HI.out (by rw [← HN.out]; omega) n HN.out).mono ?_
  rintro e w1 ⟨A', c', rfl, hi, hk, hf⟩
  have HI1 := Lib.hid hi
  have HK1 := Lib.hid hk
  have HF := Lib.hid hf
  clear hi hk hf
  rw [HN.out]
  go_wp2
  go_ret2
  have hl := HN.out
  refine ⟨w1.heap.size, A', c', rfl, Lib.hid ⟨⟨Blk.at_ (by simp), HI1.out.keep ((Keep.refl Own.Zero w1).alloc _) (fun _ _ => id), fun a ha e => ?_, ?_, by simp⟩, HK1.out.alloc _, HK1.out.size, fun a ha => ⟨(HF.out a ha).1, Nat.lt_of_lt_of_le (HF.out a ha).2 ((Keep.refl Own.Zero w1).alloc _).size⟩⟩⟩
  · have := (HF.out a ha).2
    omega
  · show xs.length ≤ 65536
    omega
end Go.Proofs.Ytdmomhbimhggiaa.Block
