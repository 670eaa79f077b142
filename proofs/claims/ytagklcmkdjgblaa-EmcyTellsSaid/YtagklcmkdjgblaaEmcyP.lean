/- The document's teller on memory; find, Register, Tick. -/
import Derived.Test.YtagklcmkdjgblaaEmcyO
import Derived.Deep.RegionHeld3
import Derived.Deep.RegionHeldLaw
namespace Go.Proofs.Ytagklcmkdjgblaa.Emcy
open Go.RowKit Go.Proofs.Ytagklcmkdjgblaa.Own
/-- The document's teller at d: the same words; its rows are never written again; D: its blocks. -/
structure IsDv (w : World) (D : Nat → Prop) (d : Nat) (t : Tl) (An : Option Addr) (cn : Nat) (Ah : Option Addr) (ch : Nat) (Af : Option Addr) (cf : Nat) : Prop where
  blk : Blk w d #[.int .i64 t.most, .int .u64 t.inhibit, .int .u64 t.quiet, .slice An t.now.length cn, .slice Ah t.hist.length ch, .slice Af t.fr.length cf] 50
  now : Trs w An t.now
  nc : t.now.length ≤ cn
  nn : An = none → cn = 0
  hist : Trs w Ah t.hist
  hc : t.hist.length ≤ ch
  hn : Ah = none → ch = 0
  fr : Row w Af (flatF t.fr)
  fc : t.fr.length ≤ cf
  fn : Af = none → cf = 0
  dd : D d
  dn : t.now ≠ [] → ∀ a, An = some a → D a.block ∧ a.block ≠ d
  dh : t.hist ≠ [] → ∀ a, Ah = some a → D a.block ∧ a.block ≠ d
  df : t.fr ≠ [] → ∀ a, Af = some a → D a.block ∧ a.block ≠ d
  mx : cn ≤ maxLen ∧ ch ≤ maxLen ∧ cf ≤ maxLen
def IsD (w : World) (D : Nat → Prop) (d : Nat) (t : Tl) : Prop := ∃ An cn Ah ch Af cf, IsDv w D d t An cn Ah ch Af cf
theorem flat_ne {l : List Tr} (h : flat l ≠ []) : l ≠ [] := fun e => h (by rw [e]; rfl)
theorem flatF_ne {l : List Fr} (h : flatF l ≠ []) : l ≠ [] := fun e => h (by rw [e]; rfl)
section
variable {w w1 : World} {D S : Nat → Prop} {d : Nat} {t : Tl} {An Ah Af : Option Addr} {cn ch cf : Nat}
theorem IsDv.keep (h : IsDv w D d t An cn Ah ch Af cf) (k : Keep S w w1) (hs : ∀ i, D i → ¬ S i) : IsDv w1 D d t An cn Ah ch Af cf :=
  ⟨h.blk.keep k (hs d h.dd), Row.keep h.now k (fun a ha hn => hs _ (h.dn (flat_ne hn) a ha).1), h.nc, h.nn, Row.keep h.hist k (fun a ha hn => hs _ (h.dh (flat_ne hn) a ha).1), h.hc, h.hn, Row.keep h.fr k (fun a ha hn => hs _ (h.df (flatF_ne hn) a ha).1), h.fc, h.fn, h.dd, h.dn, h.dh, h.df, h.mx⟩
theorem IsD.keep (h : IsD w D d t) (k : Keep S w w1) (hs : ∀ i, D i → ¬ S i) : IsD w1 D d t := by
  obtain ⟨_, _, _, _, _, _, h⟩ := h
  exact ⟨_, _, _, _, _, _, h.keep k hs⟩
theorem IsD.old (h : IsD w D d t) (k : Keep Zero w w1) : IsD w1 D d t := h.keep k (fun _ _ => id)
theorem IsDv.old (h : IsDv w D d t An cn Ah ch Af cf) (k : Keep Zero w w1) : IsDv w1 D d t An cn Ah ch Af cf := h.keep k (fun _ _ => id)
theorem IsDv.more {D' : Nat → Prop} (h : IsDv w D d t An cn Ah ch Af cf) (hd : ∀ i, D i → D' i) : IsDv w D' d t An cn Ah ch Af cf :=
  { h with dd := hd _ h.dd, dn := fun e a ha => ⟨hd _ (h.dn e a ha).1, (h.dn e a ha).2⟩, dh := fun e a ha => ⟨hd _ (h.dh e a ha).1, (h.dh e a ha).2⟩, df := fun e a ha => ⟨hd _ (h.df e a ha).1, (h.df e a ha).2⟩ }
theorem IsD.more {D' : Nat → Prop} (h : IsD w D d t) (hd : ∀ i, D i → D' i) : IsD w D' d t := by
  obtain ⟨_, _, _, _, _, _, h⟩ := h
  exact ⟨_, _, _, _, _, _, h.more hd⟩
theorem row_far {A : Option Addr} {vs : List Value} (h : Row w A vs) {j : Nat} {v : Value} (hne : vs ≠ [] → ∀ a, A = some a → a.block ≠ d) : Row (w.setCell ⟨d, j, none⟩ v) A vs :=
  Row.keep h ((Keep.refl (Own.One d) w).set1 j v) (fun a ha hn e => hne hn a ha e)
/-- The number of ticks put anew. -/
theorem IsDv.set2 (h : IsDv w D d t An cn Ah ch Af cf) (q : Int) : IsDv (w.setCell ⟨d, 2, none⟩ (.int .u64 q)) D d { t with quiet := q } An cn Ah ch Af cf :=
  { h with
    blk := (h.blk.set 2 _).cast (by simp)
    now := row_far h.now (fun hn a ha => (h.dn (flat_ne hn) a ha).2)
    hist := row_far h.hist (fun hn a ha => (h.dh (flat_ne hn) a ha).2)
    fr := row_far h.fr (fun hn a ha => (h.df (flatF_ne hn) a ha).2) }
theorem IsDv.put3 {D' : Nat → Prop} (h : IsDv w D d t An cn Ah ch Af cf) {A : Option Addr} {c : Nat} {l : List Tr} (hk : Keep Zero w w1) (hr : Trs w1 A l) (hc : l.length ≤ c) (hm : c ≤ maxLen) (hn : A = none → c = 0) (hd : ∀ i, D i → D' i) (ha : l ≠ [] → ∀ a, A = some a → D' a.block ∧ a.block ≠ d) :
    IsDv (w1.setCell ⟨d, 3, none⟩ (.slice A l.length c)) D' d { t with now := l } A c Ah ch Af cf :=
  { (h.old hk).more hd with
    blk := ((h.old hk).blk.set 3 _).cast (by simp)
    now := row_far hr (fun hn a e => (ha (flat_ne hn) a e).2)
    nc := hc
    nn := hn
    dn := ha
    hist := row_far (h.old hk).hist (fun hn a ha => (h.dh (flat_ne hn) a ha).2)
    fr := row_far (h.old hk).fr (fun hn a ha => (h.df (flatF_ne hn) a ha).2)
    mx := ⟨hm, h.mx.2.1, h.mx.2.2⟩ }
theorem IsDv.put4 {D' : Nat → Prop} (h : IsDv w D d t An cn Ah ch Af cf) {A : Option Addr} {c : Nat} {l : List Tr} (hk : Keep Zero w w1) (hr : Trs w1 A l) (hc : l.length ≤ c) (hm : c ≤ maxLen) (hn : A = none → c = 0) (hd : ∀ i, D i → D' i) (ha : l ≠ [] → ∀ a, A = some a → D' a.block ∧ a.block ≠ d) :
    IsDv (w1.setCell ⟨d, 4, none⟩ (.slice A l.length c)) D' d { t with hist := l } An cn A c Af cf :=
  { (h.old hk).more hd with
    blk := ((h.old hk).blk.set 4 _).cast (by simp)
    now := row_far (h.old hk).now (fun hn a ha => (h.dn (flat_ne hn) a ha).2)
    hist := row_far hr (fun hn a e => (ha (flat_ne hn) a e).2)
    hc := hc
    hn := hn
    dh := ha
    fr := row_far (h.old hk).fr (fun hn a ha => (h.df (flatF_ne hn) a ha).2)
    mx := ⟨h.mx.1, hm, h.mx.2.2⟩ }
theorem IsDv.put5 {D' : Nat → Prop} (h : IsDv w D d t An cn Ah ch Af cf) {A : Option Addr} {c : Nat} {l : List Fr} (hk : Keep Zero w w1) (hr : Row w1 A (flatF l)) (hc : l.length ≤ c) (hm : c ≤ maxLen) (hn : A = none → c = 0) (hd : ∀ i, D i → D' i) (ha : l ≠ [] → ∀ a, A = some a → D' a.block ∧ a.block ≠ d) :
    IsDv (w1.setCell ⟨d, 5, none⟩ (.slice A l.length c)) D' d { t with fr := l } An cn Ah ch A c :=
  { (h.old hk).more hd with
    blk := ((h.old hk).blk.set 5 _).cast (by simp)
    now := row_far (h.old hk).now (fun hn a ha => (h.dn (flat_ne hn) a ha).2)
    hist := row_far (h.old hk).hist (fun hn a ha => (h.dh (flat_ne hn) a ha).2)
    fr := row_far hr (fun hn a e => (ha (flatF_ne hn) a e).2)
    fc := hc
    fn := hn
    df := ha
    mx := ⟨h.mx.1, h.mx.2.1, hm⟩ }
end
set_option maxHeartbeats 2000000 in
theorem find_any {w : World} {D : Nat → Prop} {d : Nat} {t : Tl} (h : IsD w D d t) (c : Int) (hl : t.now.length ≤ 1000000000000000) :
    Calls Try.prog 31 #[.pointer (some ⟨d, 0, none⟩), .int .u16 c] w fun e w' => e = .returned (.int .i64 (findF c t.now 0)) ∧ w = w' := by
  obtain ⟨An, cn, Ah, ch, Af, cf, h⟩ := h
  have c3 := h.blk.cell 3
  have glt := h.blk.lt
  have HR := Lib.hid h.now
  obtain ⟨l, hle⟩ : ∃ l, l = t.now := ⟨_, rfl⟩
  rw [← hle] at hl HR ⊢
  obtain ⟨n, hn⟩ : ∃ n, n = l.length := ⟨_, rfl⟩
  have HN := Lib.hid hn
  have c3' : w.cell? ⟨d, 3, none⟩ = some (.slice An n cn) := by rw [hn, hle]; exact c3
  rw [← hn] at hl
  clear h c3 hn hle
  go_enter Try.func31, Try.ntmps31
  go_wp2_with fail
  go_loopg [5] n (fun k s5 wr => ∃ j : Nat, j ≤ n ∧ k = n - j ∧ s5 = .int .i64 j ∧ w = wr ∧ Hid (findF c (l.drop j) j = findF c l 0))
  case atStart => exact ⟨0, Nat.zero_le _, rfl, rfl, rfl, rfl⟩
  case round =>
    obtain ⟨j, hj, hk, rfl, rfl, HF⟩ := hrel
    have HM := Lib.hid hk
    clear hk
    by_cases hlt : j < n
    · obtain ⟨x, hx⟩ : ∃ x, l[j]? = some x := ⟨l[j]'(by rw [← HN.out]; exact hlt), List.getElem?_eq_getElem _⟩
      obtain ⟨q, o, rfl, hq, d0, d1, d2, d3, d4, d5, d6⟩ := Trs.pick HR.out hx
      have h1 : (j : Int) < (n : Int) := by omega
      have HS := Lib.hid (findF_step (c := c) hx)
      clear hx d1 d2 d3 d4 d5 d6
      by_cases he : x.code = c
      · have heb : (x.code == c) = true := by simp [he]
        have HE2 : Hid (findF c l 0 = j) := Lib.hid (by rw [← HF.out, HS.out, if_pos he])
        clear he
        go_wp2_with fail
        go_ret
        rw [HE2.out]
        exact ⟨rfl, rfl⟩
      · have heb : (x.code == c) = false := by simp [he]
        have HE2 : Hid (findF c (l.drop (j + 1)) (j + 1) = findF c l 0) := Lib.hid (by rw [← HF.out, HS.out, if_neg he])
        clear he
        go_wp2_with fail
        go_roundg (n - (j + 1))
        case measure => rw [HM.out]; omega
        case rel => exact ⟨j + 1, by omega, rfl, by go_num, rfl, HE2⟩
    · have h1 : ¬ (j : Int) < (n : Int) := by omega
      have HE : Hid (findF c l 0 = -1) := Lib.hid (by rw [← HF.out, List.drop_of_length_le (by rw [← HN.out]; omega)]; rfl)
      go_wp2
      go_ret
      rw [HE.out]
      exact ⟨rfl, rfl⟩
set_option maxHeartbeats 2000000 in
theorem DRegister_any {w : World} {D : Nat → Prop} {d : Nat} {t : Tl} (h : IsD w D d t) (hw : ∀ x ∈ t.now, x.wf) (hl : t.now.length ≤ 1000000000000000) :
    Calls Try.prog 23 #[.pointer (some ⟨d, 0, none⟩)] w fun e w' => e = .returned (.int .u8 (regF t.now)) ∧ w = w' := by
  rw [← regD_eq hw]
  obtain ⟨An, cn, Ah, ch, Af, cf, h⟩ := h
  have c3 := h.blk.cell 3
  have glt := h.blk.lt
  have HR := Lib.hid h.now
  obtain ⟨l, hle⟩ : ∃ l, l = t.now := ⟨_, rfl⟩
  rw [← hle] at hl HR ⊢
  obtain ⟨n, hn⟩ : ∃ n, n = l.length := ⟨_, rfl⟩
  have HN := Lib.hid hn
  have c3' : w.cell? ⟨d, 3, none⟩ = some (.slice An n cn) := by rw [hn, hle]; exact c3
  rw [← hn] at hl
  clear h c3 hn hle hw
  go_enter Try.func23, Try.ntmps23
  go_wp2_with fail
  go_loopg [3, 4] n (fun k s3 s4 wr => ∃ j : Nat, j ≤ n ∧ k = n - j ∧ s4 = .int .i64 j ∧ s3 = .int .u8 (regD (l.take j)) ∧ w = wr)
  case atStart => exact ⟨0, Nat.zero_le _, rfl, rfl, rfl, rfl⟩
  case round =>
    obtain ⟨j, hj, hk, rfl, rfl, rfl⟩ := hrel
    have HM := Lib.hid hk
    clear hk
    by_cases hlt : j < n
    · obtain ⟨x, hx⟩ : ∃ x, l[j]? = some x := ⟨l[j]'(by rw [← HN.out]; exact hlt), List.getElem?_eq_getElem _⟩
      obtain ⟨q, o, rfl, hq, d0, d1, d2, d3, d4, d5, d6⟩ := Trs.pick HR.out hx
      have h1 : (j : Int) < (n : Int) := by omega
      have HS := Lib.hid (regD_snoc (l.take j) x)
      have HT := Lib.hid (take_snoc hx)
      obtain ⟨r, hr⟩ : ∃ r, r = regD (l.take j) := ⟨_, rfl⟩
      have HRr := Lib.hid hr
      rw [← hr]
      clear hr hx
      go_wp2_with fail
      go_roundg (n - (j + 1))
      case measure => rw [HM.out]; omega
      case rel => exact ⟨j + 1, by omega, rfl, by go_num, by rw [HT.out, HS.out, ← HRr.out]; rfl, rfl⟩
    · have h1 : ¬ (j : Int) < (n : Int) := by omega
      have HE : Hid (regD (l.take j) = regD l) := Lib.hid (by rw [List.take_of_length_le (by rw [← HN.out]; omega)])
      obtain ⟨r, hr⟩ : ∃ r, r = regD (l.take j) := ⟨_, rfl⟩
      have HRr := Lib.hid hr
      rw [← hr]
      clear hr
      go_wp2
      go_ret
      rw [← HE.out, ← HRr.out]
      exact ⟨rfl, rfl⟩
def DPost (w : World) (D : Nat → Prop) (d : Nat) (v : Value) (t' : Tl) (e : Ending) (w' : World) : Prop := e = .returned v ∧ Hid (IsD w' (More D w w') d t' ∧ Keep (Own.One d) w w')
set_option maxHeartbeats 2000000 in
theorem DTick_any {w : World} {D : Nat → Prop} {d : Nat} {t : Tl} (h : IsD w D d t) (q0 : 0 ≤ t.quiet) (q1 : t.quiet ≤ 4294967296) (_hl : t.fr.length ≤ 1000000000000000) :
    Calls Try.prog 20 #[.pointer (some ⟨d, 0, none⟩)] w (DPost w D d (.bool (decide (t.tick.quiet = 0 ∧ 0 < t.fr.length))) t.tick) := by
  obtain ⟨An, cn, Ah, ch, Af, cf, h⟩ := h
  have c2 := h.blk.cell 2
  have f2 := h.blk.frozen 2
  have c5 := h.blk.cell 5
  have glt := h.blk.lt
  have H := Lib.hid h
  obtain ⟨n, hn⟩ : ∃ n, n = t.fr.length := ⟨_, rfl⟩
  obtain ⟨q, hq⟩ : ∃ q, q = t.quiet := ⟨_, rfl⟩
  have HN := Lib.hid hn
  have HQ := Lib.hid hq
  have c5' : w.cell? ⟨d, 5, none⟩ = some (.slice Af n cf) := by rw [hn]; exact c5
  have c2' : w.cell? ⟨d, 2, none⟩ = some (.int .u64 q) := by rw [hq]; exact c2
  rw [← hq] at q0 q1
  rw [← hn] at _hl
  clear h c5 c2 hn hq
  by_cases hp : 0 < q
  · have hpn : ¬ q = 0 := by omega
    have HT : Hid (t.tick = { t with quiet := q - 1 }) := Lib.hid (by unfold Tl.tick; rw [← HQ.out, if_pos hp])
    have HI := Lib.hid (H.out.set2 (q - 1))
    by_cases h1 : q - 1 = 0
    · have b1 : (q - 1 == 0) = true := by simp [h1]
      have HB : Hid (decide (t.tick.quiet = 0 ∧ 0 < t.fr.length) = decide (0 < n)) := Lib.hid (by rw [HT.out, ← HN.out]; simp [h1])
      clear h1
      go_enter Try.func20, Try.ntmps20
      go_wp2_with fail
      go_ret
      exact ⟨by rw [HB.out]; rfl, by rw [HT.out]; exact IsD.more ⟨_, _, _, _, _, _, HI.out⟩ (fun i hi => .inl hi), (Keep.refl _ _).set1 _ _⟩
    · have b1 : (q - 1 == 0) = false := by simp [h1]
      have HB : Hid (decide (t.tick.quiet = 0 ∧ 0 < t.fr.length) = false) := Lib.hid (by rw [HT.out]; simp [h1])
      clear h1
      go_enter Try.func20, Try.ntmps20
      go_wp2_with fail
      go_ret
      exact ⟨by rw [HB.out]; rfl, by rw [HT.out]; exact IsD.more ⟨_, _, _, _, _, _, HI.out⟩ (fun i hi => .inl hi), (Keep.refl _ _).set1 _ _⟩
  · have h0 : q = 0 := by omega
    have HT : Hid (t.tick = t) := Lib.hid (by unfold Tl.tick; rw [← HQ.out, if_neg hp, HQ.out])
    have HB : Hid (decide (t.tick.quiet = 0 ∧ 0 < t.fr.length) = decide (0 < n)) := Lib.hid (by rw [HT.out, ← HN.out, ← HQ.out, h0]; simp)
    subst h0
    clear hp
    go_enter Try.func20, Try.ntmps20
    go_wp2_with fail
    go_ret
    exact ⟨by rw [HB.out]; rfl, by rw [HT.out]; exact IsD.more ⟨_, _, _, _, _, _, H.out⟩ (fun i hi => .inl hi), Keep.refl _ _⟩
end Go.Proofs.Ytagklcmkdjgblaa.Emcy
