/- The register. -/
import Derived.Test.YtagklcmkdjgblaaEmcyE
namespace Go.Proofs.Ytagklcmkdjgblaa.Emcy
open Go.RowKit Go.Proofs.Ytagklcmkdjgblaa.Own
theorem foldN : ∀ (l : List Tr) (a : Nat), a < 256 → (∀ t ∈ l, t.wf) →
    l.foldl (fun (a : Int) t => orB a (orB t.reg 1)) (a : Int) = ((l.foldl (fun (a : Nat) t => a ||| (t.reg.toNat ||| 1)) a : Nat) : Int) ∧ l.foldl (fun (a : Int) t => orB (orB a t.reg) 1) (a : Int) = ((l.foldl (fun (a : Nat) t => a ||| (t.reg.toNat ||| 1)) a : Nat) : Int) ∧ l.foldl (fun (a : Nat) t => a ||| (t.reg.toNat ||| 1)) a < 256 ∧ (a ≠ 0 → l.foldl (fun (a : Nat) t => a ||| (t.reg.toNat ||| 1)) a ≠ 0)
  | [], a, ha, _ => ⟨rfl, rfl, ha, fun h => h⟩
  | t :: l, a, ha, h => by
    have hw : t.wf := h t (List.mem_cons_self ..)
    unfold Tr.wf at hw
    have h1 : t.reg.toNat ||| 1 < 256 := Nat.or_lt_two_pow (n := 8) (by omega) (by decide)
    have h2 : a ||| (t.reg.toNat ||| 1) < 256 := Nat.or_lt_two_pow (n := 8) ha h1
    have h3 : a ||| t.reg.toNat < 256 := Nat.or_lt_two_pow (n := 8) ha (by omega)
    have e1 : orB (a : Int) (orB t.reg 1) = ((a ||| (t.reg.toNat ||| 1) : Nat) : Int) := by
      rw [show t.reg = ((t.reg.toNat : Nat) : Int) by omega, show (1 : Int) = ((1 : Nat) : Int) from rfl, orB_nat _ _ (by omega) (by decide), Int.toNat_natCast]
      exact orB_nat _ _ ha h1
    have e2 : orB (orB (a : Int) t.reg) 1 = ((a ||| (t.reg.toNat ||| 1) : Nat) : Int) := by
      rw [show t.reg = ((t.reg.toNat : Nat) : Int) by omega, show (1 : Int) = ((1 : Nat) : Int) from rfl, orB_nat _ _ ha (by omega), orB_nat _ _ h3 (by decide), Int.toNat_natCast, Nat.or_assoc]
    obtain ⟨i1, i2, i3, i4⟩ := foldN l (a ||| (t.reg.toNat ||| 1)) h2 (fun x hx => h x (List.mem_cons_of_mem _ hx))
    simp only [List.foldl_cons]
    rw [e1, e2]
    refine ⟨i1, i2, i3, fun _ => i4 ?_⟩
    have : 1 ≤ a ||| (t.reg.toNat ||| 1) := Nat.le_trans Nat.right_le_or Nat.right_le_or
    omega
theorem regD_eq {l : List Tr} (h : ∀ t ∈ l, t.wf) : regD l = regF l := by
  have := foldN l 0 (by decide) h
  unfold regD regF
  exact this.2.1.trans this.1.symm
theorem regF_range {l : List Tr} (h : ∀ t ∈ l, t.wf) : 0 ≤ regF l ∧ regF l ≤ 255 := by
  have := foldN l 0 (by decide) h
  unfold regF
  have b := this.2.2.1
  rw [show (0 : Int) = ((0 : Nat) : Int) from rfl, this.1]
  omega
theorem regF_zero {l : List Tr} (h : ∀ t ∈ l, t.wf) : regF l = 0 ↔ l = [] := by
  constructor
  · intro e
    cases l with
    | nil => rfl
    | cons t l =>
      exfalso
      have hw : t.wf := h t (List.mem_cons_self ..)
      unfold Tr.wf at hw
      have h1 : t.reg.toNat ||| 1 < 256 := Nat.or_lt_two_pow (n := 8) (by omega) (by decide)
      have e1 : orB (0 : Int) (orB t.reg 1) = ((t.reg.toNat ||| 1 : Nat) : Int) := by
        rw [show t.reg = ((t.reg.toNat : Nat) : Int) by omega, show (1 : Int) = ((1 : Nat) : Int) from rfl, orB_nat _ _ (by omega) (by decide), Int.toNat_natCast]
        have := orB_nat 0 _ (by decide) h1
        rw [Nat.zero_or] at this
        exact this
      have := foldN l (t.reg.toNat ||| 1) h1 (fun x hx => h x (List.mem_cons_of_mem _ hx))
      unfold regF at e
      simp only [List.foldl_cons] at e
      rw [e1, this.1] at e
      have h0 : 1 ≤ t.reg.toNat ||| 1 := Nat.right_le_or
      exact this.2.2.2 (by omega) (by omega)
  · rintro rfl
    rfl
theorem regF_snoc (l : List Tr) (t : Tr) : regF (l ++ [t]) = orB (regF l) (orB t.reg 1) := by unfold regF; rw [List.foldl_append]; rfl
theorem regD_snoc (l : List Tr) (t : Tr) : regD (l ++ [t]) = orB (orB (regD l) t.reg) 1 := by unfold regD; rw [List.foldl_append]; rfl
theorem take_snoc {l : List Tr} {j : Nat} {t : Tr} (h : l[j]? = some t) : l.take (j + 1) = l.take j ++ [t] := by
  rw [List.take_add_one, h]
  rfl

set_option maxHeartbeats 2000000 in
theorem register_any {w : World} {S : Nat → Prop} {g : Nat} {t : Tl} (h : IsT w S g t) (hw : ∀ x ∈ t.now, x.wf) (hl : t.now.length ≤ 1000000000000000) :
    Calls Try.prog 30 #[.pointer (some ⟨g, 0, none⟩)] w fun e w' => e = .returned (.int .u8 (regF t.now)) ∧ Keep Zero w w' := by
  obtain ⟨An, cn, Ah, ch, Af, cf, h⟩ := h
  have c3 := h.blk.cell 3
  have glt := h.blk.lt
  have HR := Lib.hid (own_trs h.now)
  have HW := Lib.hid hw
  obtain ⟨l, hle⟩ : ∃ l, l = t.now := ⟨_, rfl⟩
  rw [← hle] at hl HR HW ⊢
  obtain ⟨n, hn⟩ : ∃ n, n = l.length := ⟨_, rfl⟩
  have HN := Lib.hid hn
  have c3' : w.cell? ⟨g, 3, none⟩ = some (.slice An n cn) := by rw [hn, hle]; exact c3
  rw [← hn] at hl
  clear h c3 hn hw hle
  go_enter Try.func30, Try.ntmps30
  go_wp2_with fail
  go_loopg [3, 11] n (fun k s3 s11 wr => ∃ j : Nat, j ≤ n ∧ k = n - j ∧ s11 = .int .i64 j ∧ s3 = .int .u8 (regF (l.take j)) ∧ Keep Zero w wr)
  case atStart => exact ⟨0, Nat.zero_le _, rfl, rfl, rfl, Keep.refl _ _⟩
  case round =>
    obtain ⟨j, hj, hk, rfl, rfl, hkp⟩ := hrel
    have HK := Lib.hid hkp
    have HM := Lib.hid hk
    clear hkp hk
    by_cases hlt : j < n
    · obtain ⟨x, hx⟩ : ∃ x, l[j]? = some x := ⟨l[j]'(by rw [← HN.out]; exact hlt), List.getElem?_eq_getElem _⟩
      obtain ⟨q, o, rfl, hq, d0, d1, d2, d3, d4, d5, d6⟩ := Trs.pick (Row.keep HR.out HK.out (fun _ _ _ => id)) hx
      have h1 : (j : Int) < (n : Int) := by omega
      have HS := Lib.hid (regF_snoc (l.take j) x)
      have HT := Lib.hid (take_snoc hx)
      obtain ⟨r, hr⟩ : ∃ r, r = regF (l.take j) := ⟨_, rfl⟩
      have HRr := Lib.hid hr
      rw [← hr]
      clear hr hx
      go_wp2_with fail
      go_roundg (n - (j + 1))
      case measure => rw [HM.out]; omega
      case rel => exact ⟨j + 1, by omega, rfl, by go_num, by rw [HT.out, HS.out, ← HRr.out]; rfl, HK.out.alloc _⟩
    · have h1 : ¬ (j : Int) < (n : Int) := by omega
      have HE : Hid (regF (l.take j) = regF l) := Lib.hid (by rw [List.take_of_length_le (by rw [← HN.out]; omega)])
      obtain ⟨r, hr⟩ : ∃ r, r = regF (l.take j) := ⟨_, rfl⟩
      have HRr := Lib.hid hr
      rw [← hr]
      clear hr
      go_wp2
      go_ret
      rw [← HE.out, ← HRr.out]
      exact ⟨rfl, HK.out⟩
theorem Register_any {w : World} {S : Nat → Prop} {g : Nat} {t : Tl} (h : IsT w S g t) (hw : ∀ x ∈ t.now, x.wf) (hl : t.now.length ≤ 1000000000000000) :
    Calls Try.prog 15 #[.pointer (some ⟨g, 0, none⟩)] w fun e w' => e = .returned (.int .u8 (regF t.now)) ∧ Keep Zero w w' := by
  have H := Lib.hid h
  have HW := Lib.hid hw
  obtain ⟨r, hr⟩ : ∃ r, r = regF t.now := ⟨_, rfl⟩
  have HRr := Lib.hid hr
  rw [← hr]
  clear h hw hr
  go_enter Try.func15, Try.ntmps15
  go_wp2_with fail
  refine (register_any H.out HW.out hl).mono ?_
  rintro e w' ⟨rfl, hk⟩
  rw [← HRr.out]
  have HK := Lib.hid hk
  clear hk
  go_wp2_with fail
  go_ret
  exact ⟨rfl, HK.out⟩
def Tl.tick (t : Tl) : Tl := { t with quiet := if 0 < t.quiet then t.quiet - 1 else t.quiet }
def TickPost (w : World) (S : Nat → Prop) (g : Nat) (t : Tl) (e : Ending) (w' : World) : Prop := e = .returned (.bool (decide (t.tick.quiet = 0 ∧ 0 < t.fr.length))) ∧ IsT w' S g t.tick ∧ Keep S w w'
theorem IsTv.set2 {w : World} {S : Nat → Prop} {g : Nat} {t : Tl} {An Ah Af : Option Addr} {cn ch cf : Nat} (h : IsTv w S g t An cn Ah ch Af cf) (q : Int) :
    IsTv (w.setCell ⟨g, 2, none⟩ (.int .u64 q)) S g { t with quiet := q } An cn Ah ch Af cf := by
  have k : Keep (Own.One g) w (w.setCell ⟨g, 2, none⟩ (.int .u64 q)) := (Keep.refl _ _).set1 _ _
  have hb := h.blk.set 2 (.int .u64 q)
  exact ⟨hb.cast (by simp), own_keep2 h.now k (fun i hi e => by obtain ⟨a, ha, rfl⟩ := own_in hi; exact (h.sn a ha).2 e), own_keep2 h.hist k (fun i hi e => by obtain ⟨a, ha, rfl⟩ := own_in hi; exact (h.sh a ha).2.1 e),
    own_keep2 h.fr k (fun i hi e => by obtain ⟨a, ha, rfl⟩ := own_in hi; exact (h.sf a ha).2.1 e), h.sg, h.sn, h.sh, h.sf⟩
set_option maxHeartbeats 2000000 in
theorem Tick_any {w : World} {S : Nat → Prop} {g : Nat} {t : Tl} (h : IsT w S g t) (q0 : 0 ≤ t.quiet) (q1 : t.quiet ≤ 4294967296) (_hl : t.fr.length ≤ 1000000000000000) :
    Calls Try.prog 11 #[.pointer (some ⟨g, 0, none⟩)] w (TickPost w S g t) := by
  obtain ⟨An, cn, Ah, ch, Af, cf, h⟩ := h
  have c2 := h.blk.cell 2
  have f2 := h.blk.frozen 2
  have c5 := h.blk.cell 5
  have glt := h.blk.lt
  have H := Lib.hid h
  obtain ⟨n, hn⟩ : ∃ n, n = t.fr.length := ⟨_, rfl⟩
  obtain ⟨q, hq⟩ : ∃ q, q = t.quiet := ⟨_, rfl⟩
  have HN := Lib.hid hn
  have HQ := Lib.hid hq
  have c5' : w.cell? ⟨g, 5, none⟩ = some (.slice Af n cf) := by rw [hn]; exact c5
  have c2' : w.cell? ⟨g, 2, none⟩ = some (.int .u64 q) := by rw [hq]; exact c2
  rw [← hq] at q0 q1
  rw [← hn] at _hl
  clear h c5 c2 hn hq
  by_cases hp : 0 < q
  · have hpn : ¬ q = 0 := by omega
    have HT : Hid (t.tick = { t with quiet := q - 1 }) := Lib.hid (by unfold Tl.tick; rw [← HQ.out, if_pos hp])
    have HI := Lib.hid (H.out.set2 (q - 1))
    by_cases h1 : q - 1 = 0
    · have b1 : (q - 1 == 0) = true := by simp [h1]
      have HB : Hid (decide (t.tick.quiet = 0 ∧ 0 < t.fr.length) = decide (0 < n)) := Lib.hid (by rw [HT.out, ← HN.out]; simp [h1])
      obtain ⟨b, hb⟩ : ∃ b, b = decide (0 < n) := ⟨_, rfl⟩
      have HBb := Lib.hid hb
      clear h1 hb
      go_enter Try.func11, Try.ntmps11
      go_wp2_with fail
      go_ret
      exact ⟨by rw [HB.out]; rfl, by rw [HT.out]; exact ⟨_, _, _, _, _, _, HI.out⟩, (Keep.refl _ _).set (.inl H.out.sg) _⟩
    · have b1 : (q - 1 == 0) = false := by simp [h1]
      have HB : Hid (decide (t.tick.quiet = 0 ∧ 0 < t.fr.length) = false) := Lib.hid (by rw [HT.out]; simp [h1])
      clear h1
      go_enter Try.func11, Try.ntmps11
      go_wp2_with fail
      go_ret
      exact ⟨by rw [HB.out]; rfl, by rw [HT.out]; exact ⟨_, _, _, _, _, _, HI.out⟩, (Keep.refl _ _).set (.inl H.out.sg) _⟩
  · have h0 : q = 0 := by omega
    have HT : Hid (t.tick = t) := Lib.hid (by unfold Tl.tick; rw [← HQ.out, if_neg hp, HQ.out])
    have HB : Hid (decide (t.tick.quiet = 0 ∧ 0 < t.fr.length) = decide (0 < n)) := Lib.hid (by rw [HT.out, ← HN.out, ← HQ.out, h0]; simp)
    subst h0
    clear hp
    go_enter Try.func11, Try.ntmps11
    go_wp2_with fail
    go_ret
    exact ⟨by rw [HB.out]; rfl, by rw [HT.out]; exact ⟨_, _, _, _, _, _, H.out⟩, Keep.refl _ _⟩
end Go.Proofs.Ytagklcmkdjgblaa.Emcy
