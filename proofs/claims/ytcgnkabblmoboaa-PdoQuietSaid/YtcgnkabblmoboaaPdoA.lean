/- What the program's sender comes to. -/
import Derived.Test.YtcgnkabblmoboaaOwn
namespace Go.Proofs.Ytcgnkabblmoboaa.Pdo
open Go.RowKit Go.Proofs.Ytcgnkabblmoboaa.Own
def freeB (t : Int) : Bool := t == 254 || t == 255
theorem free_any (t : Int) (b : Bool) (hb : freeB t = b) (w : World) : Calls Try.prog 25 #[.int .i64 t] w fun e w' => e = .returned (.bool b) ∧ w = w' := by
  have HB := Lib.hid hb
  by_cases h1 : t = 254
  · subst h1
    have e : b = true := by rw [← hb]; rfl
    subst e
    clear hb HB
    go_enter Try.func25, Try.ntmps25
    go_wp2
    go_ret
    exact ⟨rfl, rfl⟩
  · have b1 : (t == 254) = false := by simp [h1]
    have e : b = (t == 255) := by rw [← hb]; simp [freeB, b1]
    have E := Lib.hid e
    clear hb h1 e HB
    go_enter Try.func25, Try.ntmps25
    go_wp2
    go_ret
    rw [E.out]
    exact ⟨rfl, rfl⟩
theorem RFree_any (t : Int) (b : Bool) (hb : freeB t = b) (w : World) : Calls Try.prog 12 #[.int .i64 t] w fun e w' => e = .returned (.bool b) ∧ w = w' := by
  have HB := Lib.hid hb
  by_cases h1 : t = 254
  · subst h1
    have e : b = true := by rw [← hb]; rfl
    subst e
    clear hb HB
    go_enter Try.func12, Try.ntmps12
    go_wp2
    go_ret
    exact ⟨rfl, rfl⟩
  · have b1 : (t == 254) = false := by simp [h1]
    have e : b = (t == 255) := by rw [← hb]; simp [freeB, b1]
    have E := Lib.hid e
    clear hb h1 e HB
    go_enter Try.func12, Try.ntmps12
    go_wp2
    go_ret
    rw [E.out]
    exact ⟨rfl, rfl⟩

structure Sd where
  typ : Int
  inh : Int
  ev : Int
  on : Bool
  waits : Bool
  quiet : Int
  since : Int
  syncs : Int
def Sd.cells (s : Sd) : Array Value := #[.int .i64 s.typ, .int .u64 s.inh, .int .u64 s.ev, .bool s.on, .bool s.waits, .int .u64 s.quiet, .int .u64 s.since, .int .i64 s.syncs]
def IsSd (w : World) (g : Nat) (s : Sd) : Prop := Blk w g s.cells 62
theorem IsSd.keep {S : Nat → Prop} {w w1 : World} {g : Nat} {p : Sd} (h : IsSd w g p) (k : Keep S w w1) (hn : ¬ S g) : IsSd w1 g p := Blk.keep h k hn
theorem IsSd.facts {w : World} {g : Nat} {s : Sd} (h : IsSd w g s) :
    w.cell? ⟨g, 0, none⟩ = some (.int .i64 s.typ) ∧ w.cell? ⟨g, 1, none⟩ = some (.int .u64 s.inh) ∧ w.cell? ⟨g, 2, none⟩ = some (.int .u64 s.ev) ∧ w.cell? ⟨g, 3, none⟩ = some (.bool s.on) ∧ w.cell? ⟨g, 4, none⟩ = some (.bool s.waits) ∧ w.cell? ⟨g, 5, none⟩ = some (.int .u64 s.quiet) ∧ w.cell? ⟨g, 6, none⟩ = some (.int .u64 s.since) ∧ w.cell? ⟨g, 7, none⟩ = some (.int .i64 s.syncs) ∧
    w.frozen? ⟨g, 3, none⟩ = false ∧ w.frozen? ⟨g, 4, none⟩ = false ∧ w.frozen? ⟨g, 5, none⟩ = false ∧ w.frozen? ⟨g, 6, none⟩ = false ∧ w.frozen? ⟨g, 7, none⟩ = false :=
  ⟨h.cell 0, h.cell 1, h.cell 2, h.cell 3, h.cell 4, h.cell 5, h.cell 6, h.cell 7, h.frozen 3, h.frozen 4, h.frozen 5, h.frozen 6, h.frozen 7⟩

def Sd.sent (s : Sd) : Sd := { s with waits := false, quiet := s.inh, since := 0, syncs := 0 }
def SentPost (w : World) (g : Nat) (s : Sd) (e : Ending) (w' : World) : Prop := e = .returned (.bool true) ∧ IsSd w' g s.sent ∧ Keep (One g) w w'
set_option maxHeartbeats 1000000 in
theorem sends_any {w : World} {g : Nat} {s : Sd} (h : IsSd w g s) : Calls Try.prog 31 #[.pointer (some ⟨g, 0, none⟩)] w (SentPost w g s) := by
  obtain ⟨c0, c1, c2, c3, c4, c5, c6, c7, f3, f4, f5, f6, f7⟩ := h.facts
  have H := Lib.hid h
  have HF := Lib.hid h.facts
  clear h
  go_enter Try.func31, Try.ntmps31
  go_wp2
  go_ret
  refine ⟨rfl, ?_, ?_⟩
  · apply Blk.cast
    · repeat (first | (with_reducible first | apply Blk.set | apply Blk.drewN | apply Blk.drew) | exact H.out)
    · simp [Sd.cells, Sd.sent]
  · repeat (with_reducible first | exact Keep.refl _ _ | apply Keep.set1 | apply Keep.drewN | apply Keep.drew)

def Sd.start (s : Sd) (b : Bool) : Sd := if b && !s.on then { s with on := b, waits := false, quiet := 0, since := 0, syncs := 0 } else { s with on := b }
def StartPost (w : World) (g : Nat) (s : Sd) (b : Bool) (e : Ending) (w' : World) : Prop := e = .returned (.tuple #[]) ∧ IsSd w' g (s.start b) ∧ Keep (One g) w w'
set_option maxHeartbeats 2000000 in
theorem Start_any {w : World} {g : Nat} {s : Sd} (h : IsSd w g s) (b : Bool) : Calls Try.prog 17 #[.pointer (some ⟨g, 0, none⟩), .bool b] w (StartPost w g s b) := by
  obtain ⟨c0, c1, c2, c3, c4, c5, c6, c7, f3, f4, f5, f6, f7⟩ := h.facts
  have H := Lib.hid h
  have HF := Lib.hid h.facts
  clear h
  cases hb : b && !s.on with
  | true =>
    obtain ⟨rfl, ho⟩ : b = true ∧ s.on = false := by simpa using hb
    have e : s.start true = { s with on := true, waits := false, quiet := 0, since := 0, syncs := 0 } := by simp [Sd.start, ho]
    have E := Lib.hid e
    clear hb e
    go_enter Try.func17, Try.ntmps17
    go_wp2
    go_end0
    refine ⟨rfl, ?_, ?_⟩
    · rw [E.out]
      apply Blk.cast
      · repeat (first | (with_reducible first | apply Blk.set | apply Blk.drewN | apply Blk.drew) | exact H.out)
      · simp [Sd.cells]
    · repeat (with_reducible first | exact Keep.refl _ _ | apply Keep.set1 | apply Keep.drewN | apply Keep.drew)
  | false =>
    have e : s.start b = { s with on := b } := by simp [Sd.start, hb]
    have E := Lib.hid e
    have hb' : b = false ∨ (b = true ∧ s.on = true) := by cases b <;> simp_all
    clear hb e
    rcases hb' with rfl | ⟨rfl, ho⟩
    all_goals
      go_enter Try.func17, Try.ntmps17
      go_wp2
      go_end0
      refine ⟨rfl, ?_, ?_⟩
      · rw [E.out]
        apply Blk.cast
        · repeat (first | (with_reducible first | apply Blk.set | apply Blk.drewN | apply Blk.drew) | exact H.out)
        · simp [Sd.cells]
      · repeat (with_reducible first | exact Keep.refl _ _ | apply Keep.set1 | apply Keep.drewN | apply Keep.drew)

/-- An Event: whether it is sent, and what is then. -/
def Sd.event (s : Sd) : Bool × Sd := if s.on then (if freeB s.typ && decide (s.quiet = 0) then (true, s.sent) else (false, { s with waits := true })) else (false, s)
def BoolPost (w : World) (g : Nat) (r : Bool × Sd) (e : Ending) (w' : World) : Prop := e = .returned (.bool r.1) ∧ IsSd w' g r.2 ∧ Keep (One g) w w'
set_option maxHeartbeats 2000000 in
theorem Event_any {w : World} {g : Nat} {s : Sd} (h : IsSd w g s) : Calls Try.prog 20 #[.pointer (some ⟨g, 0, none⟩)] w (BoolPost w g s.event) := by
  obtain ⟨c0, c1, c2, c3, c4, c5, c6, c7, f3, f4, f5, f6, f7⟩ := h.facts
  have H := Lib.hid h
  have HF := Lib.hid h.facts
  clear h
  cases ho : s.on with
  | false =>
    have E : Hid (s.event = (false, s)) := by unfold Hid Sd.event; rw [ho]; rfl
    rw [ho] at c3
    clear ho
    go_enter Try.func20, Try.ntmps20
    go_wp2
    go_ret
    unfold BoolPost
    rw [E.out]
    exact ⟨rfl, H.out, Keep.refl _ _⟩
  | true =>
    cases hf : freeB s.typ with
    | false =>
      have E : Hid (s.event = (false, { s with waits := true })) := by unfold Hid Sd.event; rw [ho, hf]; rfl
      have F := Lib.hid hf
      rw [ho] at c3
      clear hf
      go_enter Try.func20, Try.ntmps20
      go_wp2_with ((with_reducible refine (free_any s.typ false F.out _).mono ?_); rintro e w' ⟨rfl, rfl⟩)
      go_ret
      unfold BoolPost
      rw [E.out]
      refine ⟨rfl, ?_, ?_⟩
      · apply Blk.cast
        · repeat (first | (with_reducible first | apply Blk.set | apply Blk.drewN | apply Blk.drew) | exact H.out)
        · simp [Sd.cells, ho]
      · repeat (with_reducible first | exact Keep.refl _ _ | apply Keep.set1 | apply Keep.drewN | apply Keep.drew)
    | true =>
      have F := Lib.hid hf
      by_cases hq : s.quiet = 0
      · have E : Hid (s.event = (true, s.sent)) := by unfold Hid Sd.event; rw [ho, hf, hq]; rfl
        have b1 : (s.quiet == 0) = true := by simp [hq]
        rw [ho] at c3
        clear hf hq ho
        go_enter Try.func20, Try.ntmps20
        go_wp2_with ((with_reducible refine (free_any s.typ true F.out _).mono ?_); rintro e w' ⟨rfl, rfl⟩)
        refine (sends_any H.out).mono ?_
        rintro e w2 ⟨rfl, h2, k2⟩
        have P : Hid (IsSd w2 g s.sent ∧ Keep (One g) w w2) := ⟨h2, k2⟩
        clear h2 k2
        go_wp2
        go_ret
        unfold BoolPost
        rw [E.out]
        exact ⟨rfl, P.out.1, P.out.2⟩
      · have E : Hid (s.event = (false, { s with waits := true })) := by unfold Hid Sd.event; rw [ho, hf, if_pos rfl, if_neg (by simp [hq])]
        have b1 : (s.quiet == 0) = false := by simp [hq]
        rw [ho] at c3
        clear hf hq
        go_enter Try.func20, Try.ntmps20
        go_wp2_with ((with_reducible refine (free_any s.typ true F.out _).mono ?_); rintro e w' ⟨rfl, rfl⟩)
        go_ret
        unfold BoolPost
        rw [E.out]
        refine ⟨rfl, ?_, ?_⟩
        · apply Blk.cast
          · repeat (first | (with_reducible first | apply Blk.set | apply Blk.drewN | apply Blk.drew) | exact H.out)
          · simp [Sd.cells, ho]
        · repeat (with_reducible first | exact Keep.refl _ _ | apply Keep.set1 | apply Keep.drewN | apply Keep.drew)
end Go.Proofs.Ytcgnkabblmoboaa.Pdo
