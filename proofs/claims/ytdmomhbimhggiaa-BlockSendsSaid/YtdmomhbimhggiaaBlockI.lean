/- A sender and a receiver together. -/
import Derived.Test.YtdmomhbimhggiaaBlockH
namespace Go.Proofs.Ytdmomhbimhggiaa.Block
open Go.RowKit Go.Proofs.Ytdmomhbimhggiaa.Own Go.Proofs.Ytdmomhbimhggiaa.Crc
/-- The bytes of the first segments, the last one filled up. -/
def pads (bs : List Int) (k : Nat) : List Int := (List.range (7 * k)).map fun i => bs.getD i 0
theorem pads_length (bs : List Int) (k : Nat) : (pads bs k).length = 7 * k := by simp [pads]
theorem pads_succ (bs : List Int) (k i : Nat) : pads bs (k + 1) = pads bs k ++ seven (segF bs k i) := by
  unfold pads
  rw [show 7 * (k + 1) = 7 * k + 7 by omega, List.range_add, List.map_append]
  rfl
theorem pads_take (bs : List Int) (k : Nat) (h : bs.length ≤ 7 * k) : (pads bs k).take bs.length = bs := by
  apply List.ext_getElem?
  intro i
  rw [List.getElem?_take]
  split
  · rename_i hi
    unfold pads
    rw [List.getElem?_map, List.getElem?_range (by omega)]
    simp [List.getD_eq_getElem?_getD, List.getElem?_eq_getElem hi]
  · rw [List.getElem?_eq_none (by omega)]
theorem getD_byte {bs : List Int} (h : ∀ x ∈ bs, 0 ≤ x ∧ x ≤ 255) (i : Nat) : 0 ≤ bs.getD i 0 ∧ bs.getD i 0 ≤ 255 := by
  rw [List.getD_eq_getElem?_getD]
  rcases h2 : bs[i]? with _ | x
  · simp
  · exact h x (List.mem_of_getElem? h2)
theorem segs_bound (bs : List Int) : bs.length ≤ 7 * segs bs ∧ 7 * segs bs ≤ bs.length + 7 ∧ 1 ≤ segs bs := by
  unfold segs
  omega
theorem segF_byte {bs : List Int} (h : ∀ x ∈ bs, 0 ≤ x ∧ x ≤ 255) (n i : Nat) (hi : i ≤ 126) (k : Nat) : 0 ≤ segF bs n i k ∧ segF bs n i k ≤ 255 := by
  unfold segF
  split
  · split <;> omega
  · exact getD_byte h _
structure Sess (w0 w : World) (gs gr base : Nat) (s : Snd) (r : Rcv) : Prop where
  snd : IsSnd w gs s
  rcv : IsRcv w gr base r
  gsb : gs < base
  sA : ∀ a, s.A = some a → a.block < base
  grb : base ≤ gr
  keep : Keep Own.Zero w0 w
  low : w0.heap.size ≤ gs
section
variable {w0 w w1 : World} {gs gr base : Nat} {s : Snd} {r : Rcv}
theorem Sess.lo (h : Sess w0 w gs gr base s r) : w0.heap.size ≤ base := Nat.le_trans h.low (Nat.le_of_lt h.gsb)
theorem Sess.own_ge (h : Sess w0 w gs gr base s r) {k : Nat} (hk : r.V.ownBlock = some k) : base ≤ k := own_block h.rcv.own k hk
theorem Sess.rs_ge (h : Sess w0 w gs gr base s r) {k : Nat} (hk : RS r gr k) : base ≤ k := by
  rcases hk with rfl | hk
  · exact h.grb
  · exact h.own_ge hk
theorem Sess.rstep (h : Sess w0 w gs gr base s r) {r1 : Rcv} (h1 : IsRcv w1 gr base r1) (k : Keep (RS r gr) w w1) : Sess w0 w1 gs gr base s r1 :=
  ⟨h.snd.keep k (fun e => by have := h.rs_ge e; have := h.gsb; omega) (fun a ha e => by have := h.rs_ge e; have := h.sA a ha; omega), h1, h.gsb, h.sA, h.grb, h.keep.trans k (fun i hi => .inr (Nat.le_trans h.lo (h.rs_ge hi))), h.low⟩
theorem Sess.sstep (h : Sess w0 w gs gr base s r) {s1 : Snd} (h1 : IsSnd w1 gs s1) (hA : s1.A = s.A) (k : Keep (Own.One gs) w w1) : Sess w0 w1 gs gr base s1 r :=
  ⟨h1, h.rcv.keep k (fun i hi e => by have := h.rs_ge hi; have := h.gsb; have e' : i = gs := e; omega), h.gsb, by rw [hA]; exact h.sA, h.grb, h.keep.trans k (fun i hi => .inr (by have e' : i = gs := hi; have := h.low; omega)), h.low⟩
theorem Sess.far (h : Sess w0 w gs gr base s r) {b : Nat} {cs : Array Value} (hb : Blk w b cs 30) (hbb : base ≤ b) (k : Keep (Own.One b) w w1) : Sess w0 w1 gs gr base s r :=
  ⟨h.snd.keep k (fun e => by have e' : gs = b := e; have := h.gsb; omega) (fun a ha e => by have e' : a.block = b := e; have := h.sA a ha; omega),
   h.rcv.keep k (fun i hi e => by
    have e' : i = b := e
    subst e'
    rcases hi with rfl | hi
    · exact Blk.ne_ty h.rcv.blk hb (by decide) rfl
    · exact own_far h.rcv.own hb (by decide) hi), h.gsb, h.sA, h.grb, h.keep.trans k (fun i hi => .inr (by have e' : i = b := hi; have := h.lo; omega)), h.low⟩
theorem Sess.new (h : Sess w0 w gs gr base s r) (k : Keep Own.Zero w w1) : Sess w0 w1 gs gr base s r :=
  ⟨h.snd.keep k id (fun _ _ => id), h.rcv.keep k (fun _ _ => id), h.gsb, h.sA, h.grb, h.keep.trans k (fun _ h => h.elim), h.low⟩
/-- The frames stay where the receiver works. -/
theorem FrAt.rstep {bf m c : Nat} {A : Option Addr} {l : List (Nat → Int)} (hf : FrAt w bf A m c l) (h : IsRcv w gr base r) (k : Keep (RS r gr) w w1) : FrAt w1 bf A m c l :=
  own_keep2 hf k (fun i hi e => by
    obtain ⟨cs, hb⟩ := own_ty hf hi
    rcases e with rfl | e
    · exact Blk.ne_ty h.blk hb (by decide) rfl
    · exact own_far h.own hb (by decide) e)
theorem FrAt.far {bf m c b : Nat} {A : Option Addr} {l : List (Nat → Int)} (hf : FrAt w bf A m c l) (hb : ∀ a, A = some a → a.block ≠ b) (k : Keep (Own.One b) w w1) : FrAt w1 bf A m c l :=
  own_keep2 hf k (fun i hi e => by
    have e' : i = b := e
    rcases A with _ | a
    · simp [Value.ownBlock] at hi
    · simp only [Value.ownBlock, Option.some.injEq] at hi
      exact hb a rfl (by omega))
theorem FrAt.new {bf m c : Nat} {A : Option Addr} {l : List (Nat → Int)} (hf : FrAt w bf A m c l) (k : Keep Own.Zero w w1) : FrAt w1 bf A m c l := own_keep2 hf k (fun _ _ => id)
theorem FrAt.row {bf m c : Nat} {A : Option Addr} {l : List (Nat → Int)} (hf : FrAt w bf A m c l) : Row w A (cellsOf l) := by
  obtain ⟨A', c', he, hr, _⟩ := Row.own hf
  simp only [Value.slice.injEq] at he
  rw [he.1]
  exact hr
theorem FrAt.lt {bf m c : Nat} {A : Option Addr} {l : List (Nat → Int)} (hf : FrAt w bf A m c l) {a : Addr} (ha : A = some a) : a.block < w.heap.size := by
  subst ha
  exact own_lt hf
end
/-- Where the receiver stands with c segments of a block. -/
def rAt (size p c : Nat) (bs : List Int) (la : Nat → Int) (V : Value) : Rcv := ⟨size, 0, c, la, V, pads bs (p + c), 0⟩
def rAns (size p c : Nat) (bs : List Int) (V : Value) : Rcv := ⟨size, if p + c = segs bs then 1 else 0, 0, ansF c size, V, pads bs (p + c), 0⟩
/-- A segment comes that is the next one. -/
theorem feed_next {w : World} {gr base size p i : Nat} {bs : List Int} {la : Nat → Int} {V : Value} (h : IsRcv w gr base (rAt size p i bs la V)) (hb : ∀ x ∈ bs, 0 ≤ x ∧ x ≤ 255) (hl : bs.length ≤ 65536) (hi : i ≤ 126) (hp : p + i < segs bs) :
    Calls Try.prog 16 #[.pointer (some ⟨gr, 0, none⟩), aggF (segF bs (p + i) i)] w fun e w' =>
      (p + i + 1 = segs bs ∨ i + 1 = size) ∧ e = .returned (.tuple #[aggF (ansF (i + 1) size), .bool true]) ∧ (∃ V', Hid (IsRcv w' gr base (rAns size p (i + 1) bs V') ∧ Keep (RS (rAt size p i bs la V) gr) w w'))
      ∨ ¬ (p + i + 1 = segs bs ∨ i + 1 = size) ∧ e = .returned (.tuple #[aggF (fun _ => 0), .bool false]) ∧ (∃ V', Hid (IsRcv w' gr base (rAt size p (i + 1) bs la V') ∧ Keep (RS (rAt size p i bs la V) gr) w w')) := by
  have sb := segs_bound bs
  obtain ⟨fl, hfl⟩ : ∃ fl : Bool, fl = decide (p + i + 1 = segs bs) := ⟨_, rfl⟩
  have h0 : segF bs (p + i) i 0 = ((i + 1 : Nat) : Int) + (if fl then 128 else 0) := by
    unfold segF
    rw [if_pos rfl, hfl]
    by_cases e : p + i + 1 = segs bs
    · rw [if_pos e, decide_eq_true e, if_pos rfl]
      omega
    · rw [if_neg e, decide_eq_false e, if_neg (by decide)]
      omega
  have ht := RFeed_0 h rfl (segF bs (p + i) i) _ _ _ (fun W hk => (takes_go (h.keep hk (fun _ _ => id)) (i + 1) fl rfl (by omega) _ h0 (segF_byte hb _ _ hi) (by show (pads bs (p + i)).length + 7 ≤ 65543; rw [pads_length]; omega)).mono (fun e w' hp => take_feed hp))
  refine ht.mono ?_
  rintro e w' ⟨rfl, V', hp'⟩
  have hx : (rAt size p i bs la V).xs ++ seven (segF bs (p + i) i) = pads bs (p + (i + 1)) := by
    show pads bs (p + i) ++ _ = _
    rw [← Nat.add_assoc, pads_succ]
  by_cases hc : p + i + 1 = segs bs ∨ i + 1 = size
  · left
    have e1 : (fl || i + 1 == (rAt size p i bs la V).size) = true := by
      show (fl || i + 1 == size) = true
      rw [hfl]
      rcases hc with hc | hc <;> simp [hc]
    refine ⟨hc, ?_, V', Lib.hid ⟨?_, hp'.out.2⟩⟩
    · simp only [e1, if_true]
      rfl
    · have h1 := hp'.out.1
      simp only [e1, if_true, hx] at h1
      have e2 : (if fl = true then 1 else (rAt size p i bs la V).doing) = if p + (i + 1) = segs bs then 1 else 0 := by
        rw [hfl]
        by_cases e : p + i + 1 = segs bs
        · rw [decide_eq_true e, if_pos rfl, if_pos (by omega)]
        · rw [decide_eq_false e, if_neg (by decide), if_neg (by omega)]
          rfl
      rw [e2] at h1
      exact h1
  · right
    have e1 : (fl || i + 1 == (rAt size p i bs la V).size) = false := by
      show (fl || i + 1 == size) = false
      rw [hfl]
      simp only [Bool.or_eq_false_iff, decide_eq_false_iff_not, beq_eq_false_iff_ne]
      omega
    refine ⟨hc, ?_, V', Lib.hid ⟨?_, hp'.out.2⟩⟩
    · simp only [e1, Bool.false_eq_true, if_false]
    · have h1 := hp'.out.1
      simp only [e1, Bool.false_eq_true, if_false, hx] at h1
      exact h1
/-- A segment comes that is not the next one. -/
theorem feed_skip {w : World} {gr base size p c i : Nat} {bs : List Int} {la : Nat → Int} {V : Value} (h : IsRcv w gr base (rAt size p c bs la V)) (hi : i ≤ 126) (hc : c ≠ i) :
    Calls Try.prog 16 #[.pointer (some ⟨gr, 0, none⟩), aggF (segF bs (p + i) i)] w fun e w' => e = .returned (.tuple #[aggF (fun _ => 0), .bool false]) ∧ (∃ V', Hid (IsRcv w' gr base (rAt size p c bs la V') ∧ Keep (RS (rAt size p c bs la V) gr) w w')) := by
  obtain ⟨fl, hfl⟩ : ∃ fl : Bool, fl = decide (p + i + 1 = segs bs) := ⟨_, rfl⟩
  have h0 : segF bs (p + i) i 0 = ((i + 1 : Nat) : Int) + (if fl then 128 else 0) := by
    unfold segF
    rw [if_pos rfl, hfl]
    by_cases e : p + i + 1 = segs bs
    · rw [if_pos e, decide_eq_true e, if_pos rfl]
      omega
    · rw [if_neg e, decide_eq_false e, if_neg (by decide)]
      omega
  refine (RFeed_0 h rfl (segF bs (p + i) i) (fun _ => 0) false _ (fun W hk => takes_skip (h.keep hk (fun _ _ => id)) (i + 1) fl (by show i + 1 ≠ c + 1; omega) (by omega) _ h0)).mono ?_
  rintro e w' ⟨rfl, V', hp'⟩
  exact ⟨rfl, V', Lib.hid ⟨hp'.out.1, hp'.out.2⟩⟩
/-- The end comes. -/
theorem feed_end {w : World} {gr base size : Nat} {bs : List Int} {la : Nat → Int} {V : Value} (h : IsRcv w gr base ⟨size, 1, 0, la, V, pads bs (segs bs), 0⟩) (hb : ∀ x ∈ bs, 0 ≤ x ∧ x ≤ 255) (hl : bs.length ≤ 65536) :
    Calls Try.prog 16 #[.pointer (some ⟨gr, 0, none⟩), aggF (endF bs)] w fun e w' => e = .returned (.tuple #[aggF (fun k => if k = 0 then 161 else 0), .bool true]) ∧ (∃ V', Hid (IsRcv w' gr base ⟨size, 2, 0, la, V', bs, 0⟩ ∧ Keep (RS ⟨size, 1, 0, la, V, pads bs (segs bs), 0⟩ gr) w w')) := by
  have sb := segs_bound bs
  have hc := crc_lt hb
  have h0 : endF bs 0 = 193 + 4 * ((7 * segs bs - bs.length : Nat) : Int) := rfl
  have he : ∀ k, 0 ≤ endF bs k ∧ endF bs k ≤ 255 := fun k => by
    unfold endF
    split
    · omega
    · split
      · omega
      · split <;> omega
  have ht := pads_take bs (segs bs) sb.1
  refine (RFeed_1 h rfl (endF bs) _ (7 * segs bs - bs.length) (by omega) h0 true _ (fun W hk => end_ok (h.keep hk (fun _ _ => id)) (endF bs) (7 * segs bs - bs.length) bs.length (by omega) (by show (pads bs (segs bs)).length = _; rw [pads_length]; omega) hl h0 he (by
    show endF bs 1 + endF bs 2 * 256 = (crc ((pads bs (segs bs)).take bs.length) : Int)
    rw [ht]
    show (crc bs : Int) % 256 + (crc bs : Int) / 256 * 256 = _
    omega))).mono ?_
  rintro e w' ⟨rfl, V', hp'⟩
  refine ⟨rfl, V', Lib.hid ⟨?_, hp'.out.2⟩⟩
  have h1 := hp'.out.1
  simp only [ht] at h1
  exact h1
end Go.Proofs.Ytdmomhbimhggiaa.Block
