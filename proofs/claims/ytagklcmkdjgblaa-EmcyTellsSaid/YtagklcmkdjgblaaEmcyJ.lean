/- Clear: an error is not there any more. -/
import Derived.Test.YtagklcmkdjgblaaEmcyI
namespace Go.Proofs.Ytagklcmkdjgblaa.Emcy
open Go.RowKit Go.Proofs.Ytagklcmkdjgblaa.Own
theorem findF_ge (c : Int) : ∀ (l : List Tr) (k : Nat), (findF c l k = -1 ∧ ∀ t ∈ l, t.code ≠ c) ∨ ∃ i t, findF c l k = ((k + i : Nat) : Int) ∧ l[i]? = some t ∧ t.code = c
  | [], k => .inl ⟨rfl, fun t h => by cases h⟩
  | t :: l, k => by
    unfold findF
    by_cases h : t.code = c
    · rw [if_pos h]
      exact .inr ⟨0, t, rfl, rfl, h⟩
    · rw [if_neg h]
      rcases findF_ge c l (k + 1) with ⟨h1, h2⟩ | ⟨i, u, h1, h2, h3⟩
      · exact .inl ⟨h1, fun u hu => by
          rcases List.mem_cons.1 hu with rfl | hu
          · exact h
          · exact h2 u hu⟩
      · exact .inr ⟨i + 1, u, by rw [h1]; omega, by simpa using h2, h3⟩
def headCode : List Tr → Int
  | [] => 0
  | t :: _ => t.code
def cut (l : List Tr) (i : Nat) : List Tr := l.take i ++ l.drop (i + 1)
def Ex.zero : Ex := ⟨0, 0, 0, 0, 0⟩
def Tl.clear (t : Tl) (c : Int) : Bool × Tl :=
  if findF c t.now 0 < 0 then (false, t) else (true, ({ t with now := cut t.now (findF c t.now 0).toNat }).tells (headCode (cut t.now (findF c t.now 0).toNat)) Ex.zero)
def BoolPost (w : World) (S : Nat → Prop) (g : Nat) (r : Bool × Tl) (e : Ending) (w' : World) : Prop := e = .returned (.bool r.1) ∧ Hid (IsT w' (More S w w') g r.2 ∧ Keep S w w')
theorem cut_mem {l : List Tr} {i : Nat} {t : Tr} (h : t ∈ cut l i) : t ∈ l := by
  unfold cut at h
  rcases List.mem_append.1 h with h | h
  · exact List.mem_of_mem_take h
  · exact List.mem_of_mem_drop h
theorem cut_length {l : List Tr} {i : Nat} (h : i < l.length) : (cut l i).length = l.length - 1 := by
  unfold cut
  rw [List.length_append, List.length_take, List.length_drop]
  omega
theorem flat_cut (l : List Tr) (i : Nat) : (flat l).take (i * 7) ++ (flat l).drop ((i + 1) * 7) = flat (cut l i) := by
  unfold cut
  rw [flat_append, flat_take, flat_drop]
theorem BoolPost.mono {w : World} {S : Nat → Prop} {g : Nat} {r : Bool × Tl} {e : Ending} {w' : World} (h1 : e = .returned (.bool r.1)) (h2 : IsT w' (More S w w') g r.2) (h3 : Keep S w w') : BoolPost w S g r e w' := ⟨h1, h2, h3⟩
theorem More.of {S : Nat → Prop} {w w1 w2 : World} (h1 : w.heap.size ≤ w1.heap.size) (h2 : w1.heap.size ≤ w2.heap.size) (k : Nat) (h : More (More S w w1) w1 w2 k) : More S w w2 k := by
  rcases h with (h | h) | h
  · exact .inl h
  · exact .inr ⟨h.1, Nat.lt_of_lt_of_le h.2 h2⟩
  · exact .inr ⟨Nat.le_trans h1 h.1, h.2⟩
theorem More.up {S : Nat → Prop} {w w1 w2 : World} (h1 : w.heap.size ≤ w1.heap.size) (k : Nat) (h : More S w1 w2 k) : More S w w2 k :=
  h.elim .inl (fun h => .inr ⟨Nat.le_trans h1 h.1, h.2⟩)
set_option maxRecDepth 100000 in
set_option maxHeartbeats 4000000 in
theorem Clear_any {w : World} {S : Nat → Prop} {g : Nat} {t : Tl} (h : IsT w S g t) (hsw : ∀ k, S k → k < w.heap.size) (hw : ∀ x ∈ t.now, x.wf) (hl : t.now.length ≤ 1000000000000000) (hf : t.fr.length ≤ 16) (c : Int) (_c0 : 0 ≤ c) (_c1 : c ≤ 65535) :
    Calls Try.prog 9 #[.pointer (some ⟨g, 0, none⟩), .int .u16 c] w (BoolPost w S g (t.clear c)) := by
  have H := Lib.hid h
  have HW := Lib.hid hw
  have HSw := Lib.hid hsw
  rcases findF_ge c t.now 0 with ⟨h1, -⟩ | ⟨i, x, h1, h2, -⟩
  · have HE : Hid (t.clear c = (false, t)) := Lib.hid (by unfold Tl.clear; rw [h1]; rfl)
    have HF := Lib.hid h1
    rw [HE.out]
    clear h h1 hw hsw
    go_enter Try.func9, Try.ntmps9
    go_wp2_with fail
    refine (at_any H.out c hl).mono ?_
    rintro e w' ⟨rfl, hk⟩
    rw [HF.out]
    have HK := Lib.hid hk
    clear hk
    go_wp2_with fail
    go_ret
    exact ⟨rfl, IsT.more (H.out.old HK.out) (fun k hk => .inl hk), HK.out.mono (fun _ h => h.elim)⟩
  · rw [Nat.zero_add] at h1
    have hi : i < t.now.length := (List.getElem?_eq_some_iff.1 h2).1
    have HE : Hid (t.clear c = (true, ({ t with now := cut t.now i }).tells (headCode (cut t.now i)) Ex.zero)) := Lib.hid (by
      unfold Tl.clear
      rw [h1, if_neg (by omega), Int.toNat_natCast])
    have HF := Lib.hid h1
    rw [HE.out]
    obtain ⟨An, cn, Ah, ch, Af, cf, hv⟩ := h
    obtain ⟨b, rfl⟩ : ∃ b, An = some ⟨b, 0, none⟩ := by
      rcases An with _ | a
      · have := ((own_le hv.now).2.2 rfl).1
        omega
      · have := (own_addr hv.now a rfl).1
        exact ⟨a.block, congrArg some this⟩
    obtain ⟨n, hn⟩ : ∃ n, n = t.now.length := ⟨_, rfl⟩
    have HN := Lib.hid hn
    have HV := Lib.hid hv
    have HC : Hid ((cut t.now i).length = n - 1) := Lib.hid (by rw [cut_length hi, hn])
    rw [← hn] at hl hi
    have hlt : n ≤ 1000000000000000 := hl
    have glt := hv.blk.lt
    clear hv h1 h2 hw hsw hn
    go_enter Try.func9, Try.ntmps9
    go_wp2_with fail
    refine (at_any H.out c (by rw [← HN.out]; exact hlt)).mono ?_
    rintro e w1 ⟨rfl, hk⟩
    rw [HF.out]
    have HK1 := Lib.hid hk
    clear hk
    have HV1 := Lib.hid (HV.out.old HK1.out)
    have d3 : w1.cell? ⟨g, 3, none⟩ = some (.slice (some ⟨b, 0, none⟩) n cn) := by rw [HN.out]; exact HV1.out.blk.cell 3
    go_wp2_with fail
    refine (Delete27_any b cn (flat t.now) n i hi (by have := HV1.out.now; rw [← HN.out] at this; exact this) (flat_one_cell _) hlt).mono ?_
    rintro e w2 ⟨rfl, ho, hk⟩
    rw [flat_cut] at ho
    have HO := Lib.hid ho
    have HK2 := Lib.hid hk
    clear ho hk
    have HB2 : Hid (Blk w2 g _ 55) := Lib.hid (HV1.out.blk.keep HK2.out (fun e => (HV.out.sn _ rfl).2 (e : g = b).symm))
    have d3' : w2.cell? ⟨g, 3, none⟩ = some (.slice (some ⟨b, 0, none⟩) t.now.length cn) := HB2.out.cell 3
    have e3 := HB2.out.frozen 3
    have g2 := HB2.out.lt
    have hp3 := HV1.out.put3 (S' := S) (w1 := w2) (A := some ⟨b, 0, none⟩) (c := cn) (l := cut t.now i) (by rw [show (Value.slice (some (⟨b, 0, none⟩ : Addr)) t.now.length cn).ownBlock = some b from rfl]; exact grown_of_keep HK2.out) (by rw [HC.out]; exact HO.out) (fun k hk => .inl (by simpa [Value.ownBlock] using hk)) (fun _ h => h) (fun a ha hl2 => by cases ha; exact (HV.out.sn _ rfl).1)
    rw [HC.out] at hp3
    have HP3 := Lib.hid hp3
    have HK3 : Hid (Keep S w (w2.setCell ⟨g, 3, none⟩ (.slice (some ⟨b, 0, none⟩) (n - 1) cn))) := Lib.hid (((HK1.out.mono (fun i hi => hi.elim)).trans (HK2.out.mono (S' := S) (fun i hi => by have e : i = b := hi; rw [e]; exact (HV.out.sn _ rfl).1)) (fun i hi => .inl hi)).set (.inl HV.out.sg) _)
    have HW3 : Hid (∀ x ∈ cut t.now i, x.wf) := Lib.hid (fun x hx => HW.out x (cut_mem hx))
    have g3 := HP3.out.blk.cell 3
    obtain ⟨l, hll⟩ : ∃ l, l = cut t.now i := ⟨_, rfl⟩
    rw [← hll] at HP3 HC HW3 g3 HE ⊢
    have HL := Lib.hid hll
    clear hp3 hll
    rcases l with _ | ⟨x, l⟩
    · have hn1 : n - 1 = 0 := HC.out.symm
      rw [hn1] at HP3 HK3 ⊢
      go_wp2_with fail
      refine (tells_any (t := { t with now := [] }) ⟨_, _, _, _, _, _, HP3.out⟩ (fun k hk => Nat.lt_of_lt_of_le (HSw.out k hk) HK3.out.size) HW3.out (by simp) hf 0 (by omega) (by omega) Ex.zero).mono ?_
      rintro e w4 ⟨rfl, hp⟩
      go_wp2_with fail
      go_ret
      rw [← HL.out]
      exact ⟨rfl, IsT.more hp.out.1 (More.up HK3.out.size), HK3.out.trans hp.out.2 (fun i hi => .inl hi)⟩
    · have hn1 : n - 1 = l.length + 1 := HC.out.symm
      rw [hn1] at HP3 HK3 ⊢
      obtain ⟨b', o', e', _, k0, k1, k2, k3, k4, k5, k6⟩ := Trs.pick (i := 0) (t := x) (own_trs HP3.out.now) rfl
      cases e'
      simp only [Nat.zero_mul, Nat.add_zero] at k0
      clear k1 k2 k3 k4 k5 k6
      have hxw := HW3.out x (List.mem_cons_self ..)
      unfold Tr.wf at hxw
      have x0 := hxw.1
      have x1 := hxw.2.1
      clear hxw
      go_wp2_with fail
      refine (tells_any (t := { t with now := x :: l }) ⟨_, _, _, _, _, _, HP3.out⟩ (fun k hk => Nat.lt_of_lt_of_le (HSw.out k hk) HK3.out.size) HW3.out (by simp only [List.length_cons]; omega) hf x.code x0 x1 Ex.zero).mono ?_
      rintro e w4 ⟨rfl, hp⟩
      go_wp2_with fail
      go_ret
      rw [← HL.out]
      exact ⟨rfl, IsT.more hp.out.1 (More.up HK3.out.size), HK3.out.trans hp.out.2 (fun i hi => .inl hi)⟩
end Go.Proofs.Ytagklcmkdjgblaa.Emcy
