/- Node, heart and watcher side by side. -/
import Derived.Test.YtcmfcnljdeddfaaTopC
import Derived.Test.YtcmfcnljdeddfaaTopD
import Derived.Test.YtcmfcnljdeddfaaTopH
namespace Go.Proofs.Ytcmfcnljdeddfaa.Beat
open Go.RowKit Go.Proofs.Ytcmfcnljdeddfaa.Own Go.Proofs.Ytcmfcnljdeddfaa.Nmt

structure BS (w wr : World) (gn gh gw a b c : Nat) (d : Nd) (e l : Int) (t : Wt) : Prop where
  nd : IsNd wr gn d
  ht : IsHt wr gh e l
  wt : IsWt wr gw a b c t
  kp : Keep Zero w wr
  n1 : w.heap.size ≤ gn
  n2 : w.heap.size ≤ gh
  n3 : w.heap.size ≤ b
  e1 : gn ≠ gh
  e2 : gn ≠ gw
  e3 : gn ≠ a
  e4 : gn ≠ b
  e5 : gh ≠ gw
  e6 : gh ≠ a
  e7 : gh ≠ b
variable {w wr w2 : World} {gn gh gw a b c : Nat} {d d2 : Nd} {e l l2 : Int} {t t2 : Wt}
theorem BS.node (h : BS w wr gn gh gw a b c d e l t) (k : Keep (Own.One gn) wr w2) (hd : IsNd w2 gn d2) : BS w w2 gn gh gw a b c d2 e l t :=
  { h with nd := hd, ht := h.ht.keep k (fun x => h.e1 x.symm), wt := h.wt.keep k (fun x => h.e2 x.symm) (fun x => h.e3 x.symm) (fun x => h.e4 x.symm), kp := h.kp.trans k (fun _ hi => .inr (by cases hi; exact h.n1)) }
theorem BS.heart (h : BS w wr gn gh gw a b c d e l t) (k : Keep (Own.One gh) wr w2) (hd : IsHt w2 gh e l2) : BS w w2 gn gh gw a b c d e l2 t :=
  { h with ht := hd, nd := h.nd.keep k h.e1, wt := h.wt.keep k (fun x => h.e5 x.symm) (fun x => h.e6 x.symm) (fun x => h.e7 x.symm), kp := h.kp.trans k (fun _ hi => .inr (by cases hi; exact h.n2)) }
theorem BS.watch (h : BS w wr gn gh gw a b c d e l t) (k : Keep (Own.One b) wr w2) (hd : IsWt w2 gw a b c t2) : BS w w2 gn gh gw a b c d e l t2 :=
  { h with wt := hd, nd := h.nd.keep k h.e4, ht := h.ht.keep k h.e7, kp := h.kp.trans k (fun _ hi => .inr (by cases hi; exact h.n3)) }
theorem BS.zero (h : BS w wr gn gh gw a b c d e l t) (k : Keep Zero wr w2) : BS w w2 gn gh gw a b c d e l t :=
  { h with nd := h.nd.keep k id, ht := h.ht.keep k id, wt := h.wt.keep k id id id, kp := h.kp.trans k (fun _ hi => hi.elim) }

/-- Node 9. -/
def Nk (d : Nd) : Prop := d.id = 9 ∧ d.next = 9 ∧ (d.state = 0 ∨ d.state = 4 ∨ d.state = 5 ∨ d.state = 127)
theorem Nk.does {d : Nd} (h : Nk d) (c : Int) : Nk (d.does c) := by
  obtain ⟨h1, h2, h3⟩ := h
  unfold Nd.does
  repeat' split
  all_goals simp [Nk, h1, h2, h3]

theorem B_step0 (h : BS w wr gn gh gw a b c d e l t) (hd : Nk d) (hs : d.state = 0) :
    Calls Try.prog 8 #[.pointer (some ⟨gn, 0, none⟩)] wr fun en w' => ∃ q o c', en = .returned (.tuple #[.slice (some ⟨q, o, none⟩) 1 c', .bool true]) ∧ w'.cell? ⟨q, o, none⟩ = some (.int .u8 0) ∧ q ≠ b ∧ Hid (BS w w' gn gh gw a b c { d with state := 127 } e l t) := by
  refine (Step_any h.nd).mono ?_
  rintro en w' ⟨A, c', rfl, hr, hi, hk, ha⟩
  have hz : d.steps = true := by simp [Nd.steps, hs, hd.1]
  have hst : d.step = { d with state := 127 } := by simp [Nd.step, hs, hd.1]
  rw [hz] at hr ⊢
  rw [hst] at hi
  obtain ⟨q, o, rfl, hl, hc⟩ := hr 0 (.int .u8 0) rfl
  exact ⟨q, o, c', rfl, by simpa using hc, (by have h1 := ha _ rfl; have h2 := h.wt.low.lt; simp only at h1; omega), h.node hk hi⟩
theorem B_step1 (h : BS w wr gn gh gw a b c d e l t) (hs : d.state ≠ 0) :
    Calls Try.prog 8 #[.pointer (some ⟨gn, 0, none⟩)] wr fun en w' => ∃ A n c', en = .returned (.tuple #[.slice A n c', .bool false]) ∧ Hid (BS w w' gn gh gw a b c d e l t) := by
  refine (Step_any h.nd).mono ?_
  rintro en w' ⟨A, c', rfl, hr, hi, hk, ha⟩
  have hz : d.steps = false := by simp [Nd.steps, hs]
  have hst : d.step = d := by simp [Nd.step, hs]
  rw [hz]
  rw [hst] at hi
  exact ⟨A, _, c', rfl, h.node hk hi⟩
theorem B_cmd (h : BS w wr gn gh gw a b c d e l t) (x : Int) (hx : x = 1 ∨ x = 2 ∨ x = 128 ∨ x = 129 ∨ x = 130) :
    Calls Try.prog 10 #[.int .i64 x, .int .i64 9] wr fun en w' => ∃ A m, en = .returned (.tuple #[.slice A 2 m, .int .i64 0]) ∧ Hid (Got w' A 2 m [x, 9] ∧ (∀ z, A = some z → z.block ≠ gn) ∧ BS w w' gn gh gw a b c d e l t) := by
  refine (Command_any x 9 wr).mono ?_
  rintro en w' ⟨A, m, rfl, hr, hm, ha, hk⟩
  have hc : Nmt.Can x 9 := ⟨hx, by omega, by omega⟩
  rw [if_pos hc] at hr hm ⊢
  rw [if_pos hc]
  refine ⟨A, m, rfl, ⟨rfl, hr, ?_⟩, fun z hz => (by have h1 := ha z hz; have h2 := Blk.lt h.nd; omega), h.zero hk⟩
  intro y hy
  simp only [List.mem_cons, List.not_mem_nil, or_false] at hy
  omega
theorem B_take (h : BS w wr gn gh gw a b c d e l t) (A : Option Addr) (m : Nat) (xs : List Int) (hg : Got wr A 2 m xs) (ha : ∀ z, A = some z → z.block ≠ gn) :
    Calls Try.prog 11 #[.pointer (some ⟨gn, 0, none⟩), .slice A 2 m] wr fun en w' => (∃ v, en = .returned (.int .i64 v)) ∧ Hid (BS w w' gn gh gw a b c (d.does (d.cmd xs)) e l t) := by
  refine (Take_any h.nd A 2 m xs hg (fun z hz _ => ha z hz)).mono ?_
  rintro en w' ⟨rfl, hi, hk⟩
  exact ⟨⟨_, rfl⟩, h.node hk hi⟩
theorem B_reset (h : BS w wr gn gh gw a b c d e l t) (q o m : Nat) (hq : wr.cell? ⟨q, o, none⟩ = some (.int .u8 0)) (hqb : q ≠ b) :
    Calls Try.prog 9 #[.pointer (some ⟨gw, 0, none⟩), .int .i64 9, .slice (some ⟨q, o, none⟩) 1 m] wr fun en w' => (∃ A n m r, en = .returned (.tuple #[.slice A n m, .bool r])) ∧ Hid (BS w w' gn gh gw a b c d e l ⟨0, false, false, 0⟩) := by
  refine (Take_0 h.wt q o m hq hqb).mono ?_
  rintro en w' ⟨he, hi, hk⟩
  exact ⟨he, h.watch hk hi⟩
theorem B_beat {st since : Int} {there : Bool} (h : BS w wr gn gh gw a b c d e l ⟨st, there, false, since⟩) (q o m : Nat) (s : Int) (hs : s = 4 ∨ s = 5 ∨ s = 127) (hq : wr.cell? ⟨q, o, none⟩ = some (.int .u8 s)) (hqb : q ≠ b) :
    Calls Try.prog 9 #[.pointer (some ⟨gw, 0, none⟩), .int .i64 9, .slice (some ⟨q, o, none⟩) 1 m] wr fun en w' => (∃ A n m r, en = .returned (.tuple #[.slice A n m, .bool r])) ∧ Hid (BS w w' gn gh gw a b c d e l ⟨s, true, false, 0⟩) := by
  refine (Take_s h.wt q o m s hs hq hqb).mono ?_
  rintro en w' ⟨he, hi, hk⟩
  exact ⟨he, h.watch hk hi⟩
theorem B_tick {st since : Int} {there : Bool} (h : BS w wr gn gh gw a b c d e l ⟨st, there, false, since⟩) (h0 : 0 ≤ since) (h1 : since ≤ 10) :
    Calls Try.prog 12 #[.pointer (some ⟨gw, 0, none⟩)] wr fun en w' => (∃ A n m, en = .returned (.slice A n m)) ∧ Hid (BS w w' gn gh gw a b c d e l ⟨st, there, false, tickF there since⟩) := by
  refine (Tick_any h.wt h0 h1).mono ?_
  rintro en w' ⟨he, hi, hk⟩
  exact ⟨he, h.watch hk hi⟩
theorem B_state (h : BS w wr gn gh gw a b c d e l t) : Calls Try.prog 14 #[.pointer (some ⟨gn, 0, none⟩)] wr fun en w' => en = .returned (.int .i64 d.state) ∧ wr = w' := Nmt.State_any h.nd
theorem B_heart1 (h : BS w wr gn gh gw a b c d e l t) (hd : Nk d) (h0 : l = 1) (h1 : l ≤ e) (h2 : e ≤ 5) (hs : d.state ≠ 0) :
    Calls Try.prog 13 #[.pointer (some ⟨gh, 0, none⟩), .int .i64 d.state] wr fun en w' => ∃ q o m, en = .returned (.tuple #[.slice (some ⟨q, o, none⟩) 1 m, .bool true]) ∧ w'.cell? ⟨q, o, none⟩ = some (.int .u8 d.state) ∧ q ≠ b ∧ Hid (BS w w' gn gh gw a b c d e e t) := by
  refine (Heart_any h.ht (by omega) h1 h2 hd.2.2).mono ?_
  rintro en w' ⟨A, m, rfl, hr, hi, hk, ha⟩
  have hb : l = 1 ∧ beats d.state := ⟨h0, by unfold beats; have := hd.2.2; omega⟩
  rw [if_pos hb] at hr
  rw [if_pos hb, decide_eq_true hb]
  rw [if_pos h0] at hi
  obtain ⟨q, o, rfl, hl, hc⟩ := hr 0 (.int .u8 d.state) rfl
  exact ⟨q, o, m, rfl, by simpa using hc, (by have h1 := ha _ rfl; have h2 := h.wt.low.lt; simp only at h1; omega), h.heart hk hi⟩
theorem B_heart0 (h : BS w wr gn gh gw a b c d e l t) (hd : Nk d) (h0 : 1 ≤ l) (h1 : l ≤ e) (h2 : e ≤ 5) (hs : l ≠ 1 ∨ d.state = 0) :
    Calls Try.prog 13 #[.pointer (some ⟨gh, 0, none⟩), .int .i64 d.state] wr fun en w' => ∃ A n m, en = .returned (.tuple #[.slice A n m, .bool false]) ∧ Hid (BS w w' gn gh gw a b c d e (if l = 1 then e else l - 1) t) := by
  refine (Heart_any h.ht h0 h1 h2 hd.2.2).mono ?_
  rintro en w' ⟨A, m, rfl, hr, hi, hk, ha⟩
  have hb : ¬ (l = 1 ∧ beats d.state) := fun k => by
    rcases hs with hs | hs
    · exact hs k.1
    · have := k.2; rw [hs] at this; revert this; decide
  rw [if_neg hb, decide_eq_false hb]
  exact ⟨A, _, m, rfl, h.heart hk hi⟩
def stF (there : Bool) (st : Int) : Int := if there then st else 0
theorem B_says {st since : Int} {there : Bool} (h : BS w wr gn gh gw a b c d e l ⟨st, there, false, since⟩) :
    Calls Try.prog 15 #[.pointer (some ⟨gw, 0, none⟩), .int .i64 9] wr fun en w' => en = .returned (.tuple #[.int .i64 (stF there st), .bool there]) ∧ Hid (BS w w' gn gh gw a b c d e l ⟨st, there, false, since⟩) := by
  refine (State_any h.wt).mono ?_
  rintro en w' ⟨rfl, hk⟩
  exact ⟨rfl, h.zero hk⟩

/-- What holds between the rounds. -/
def End (d : Nd) (e l st since : Int) (there any : Bool) (last : Int) : Prop :=
  Nk d ∧ 1 ≤ l ∧ l ≤ e ∧ e ≤ 5 ∧ 0 ≤ since ∧ since ≤ 5 ∧ (there = true → since ≤ e ∧ (d.state ≠ 0 → since + l = e)) ∧ (any = true → d.state ≠ 0 → there = true ∧ st = last)
/-- What holds once the node has made its step. -/
def Mid (d : Nd) (e l st since : Int) (there any : Bool) (last : Int) : Prop :=
  Nk d ∧ 1 ≤ l ∧ l ≤ e ∧ e ≤ 5 ∧ 0 ≤ since ∧ since ≤ 5 ∧ (there = true → since + l = e) ∧ (any = true → there = true ∧ st = last)
theorem End.mid {st since last : Int} {there any : Bool} (h : End d e l st since there any last) (hs : d.state ≠ 0) : Mid d e l st since there any last :=
  ⟨h.1, h.2.1, h.2.2.1, h.2.2.2.1, h.2.2.2.2.1, h.2.2.2.2.2.1, fun k => (h.2.2.2.2.2.2.1 k).2 hs, fun k => h.2.2.2.2.2.2.2 k hs⟩
theorem End.fresh {st since last last' : Int} {there any : Bool} (h : End d e l st since there any last) : Mid { d with state := 127 } e l 0 0 false false last' :=
  ⟨⟨h.1.1, h.1.2.1, .inr (.inr (.inr rfl))⟩, h.2.1, h.2.2.1, h.2.2.2.1, by omega, by omega, fun k => (by cases k), fun k => (by cases k)⟩
theorem Mid.does {st since last : Int} {there any : Bool} (h : Mid d e l st since there any last) (x : Int) : Mid (d.does x) e l st since there any last :=
  ⟨h.1.does x, h.2⟩
theorem tickF_le {there : Bool} {since : Int} : tickF there since = since ∨ tickF there since = since + 1 := by cases there; exact .inl rfl; exact .inr rfl
theorem Mid.beat {st since last : Int} {there any : Bool} (h : Mid d e l st since there any last) : End d e e d.state 0 true true d.state :=
  ⟨h.1, by have := h.2.1; have := h.2.2.1; omega, by omega, h.2.2.2.1, by omega, by omega, fun _ => ⟨by have := h.2.1; have := h.2.2.1; omega, fun _ => by omega⟩, fun _ _ => ⟨rfl, rfl⟩⟩
theorem Mid.still {st since last : Int} {there any : Bool} (h : Mid d e l st since there any last) (hs : l ≠ 1 ∨ d.state = 0) : End d e (if l = 1 then e else l - 1) st (tickF there since) there any last := by
  obtain ⟨h1, h2, h3, h4, h5, h6, h7, h8⟩ := h
  cases there
  · refine ⟨h1, ?_, ?_, h4, h5, h6, fun k => (by cases k), fun k _ => h8 k⟩
    · split <;> omega
    · split <;> omega
  · have := h7 rfl
    refine ⟨h1, ?_, ?_, h4, ?_, ?_, fun _ => ⟨?_, fun hz => ?_⟩, fun k _ => h8 k⟩
    · split <;> omega
    · split <;> omega
    · show 0 ≤ since + 1; omega
    · show since + 1 ≤ 5; omega
    · show since + 1 ≤ e; omega
    · show since + 1 + _ = e
      rw [if_neg (hs.resolve_right hz)]
      omega
end Go.Proofs.Ytcmfcnljdeddfaa.Beat
