/- What Save comes to. -/
import Derived.Test.YtgegpeicpbhnkaaNvmH
import Derived.Deep.RegionWith
namespace Go.Proofs.Ytgegpeicpbhnkaa.Nvm
open Go.RowKit Go.Proofs.Ytgegpeicpbhnkaa.Own Go.Proofs.Ytgegpeicpbhnkaa.Crc
/-- The first page of the half that is written next. -/
def nextF (P : Nat → Int) (n : Nat) : Nat := if 0 < (keptF P n).2.1 ∧ (keptF P n).2.2 = 0 then n / 2 else 0
def saveF (c : Ch) (xs : List Int) : Int × Ch :=
  if 8 * ((c.n : Int) / 2 - 1) < xs.length then (2, c)
  else if c.dead then (6, c)
  else (if (putsF c (nextF c.P c.n) (nxt (keptF c.P c.n).2.1) xs).1 then 0 else 6, (putsF c (nextF c.P c.n) (nxt (keptF c.P c.n).2.1) xs).2)
def SavePost (w : World) (g : Nat) (pg : Nat) (r : Int × Ch) (e : Ending) (w' : World) : Prop := e = .returned (.int .i64 r.1) ∧ Hid (IsCh w' g r.2 ∧ Keep (Chp g pg) w w' ∧ r.2.pg = pg)
theorem putsF_pg (c : Ch) (f : Nat) (k : Int) (xs : List Int) : (putsF c f k xs).2.pg = c.pg ∧ (putsF c f k xs).2.n = c.n := by
  unfold putsF
  have h1 := c.write_pg f (fun _ => 0)
  have h2 := c.write_n f (fun _ => 0)
  split
  · have h3 := putsGo_pg f xs (pagesOf xs) 0 (c.write f (fun _ => 0)).2
    split
    · have h4 := (putsGo f xs (pagesOf xs) 0 (c.write f (fun _ => 0)).2).2.write_pg f (headB k xs)
      have h5 := (putsGo f xs (pagesOf xs) 0 (c.write f (fun _ => 0)).2).2.write_n f (headB k xs)
      exact ⟨h4.trans (h3.1.trans h1), h5.trans (h3.2.trans h2)⟩
    · exact ⟨h3.1.trans h1, h3.2.trans h2⟩
  · exact ⟨h1, h2⟩
theorem puts_h {w : World} {g : Nat} {c : Ch} (h : IsCh w g c) (f m : Nat) (hm : 1 ≤ m) (hf : f + m ≤ c.n) (cnt : Int) (k0 : 0 ≤ cnt) (k1 : cnt ≤ 65535) (A : Option Addr) (d : Nat) (xs : List Int) (hx : Src w g c.pg A d xs) (hb : ∀ x ∈ xs, 0 ≤ x ∧ x ≤ 255) (hl : xs.length ≤ 8 * (m - 1)) (n : Nat) (hn : n = xs.length) (r : Bool) (c2 : Ch) (hr : putsF c f cnt xs = (r, c2)) :
    Calls Try.prog 22 #[.agg #[.pointer (some ⟨g, 0, none⟩), .int .i64 f, .int .i64 m], .int .i64 cnt, .slice A n d] w fun e w' => e = .returned (.bool r) ∧ Hid (IsCh w' g c2 ∧ Keep (Chp g c.pg) w w') := by
  subst hn
  refine (puts_any h f m hm hf cnt k0 k1 A d xs hx hb hl).mono ?_
  rintro e w' ⟨he, h1, h2⟩
  have h3 := (putsF_pg c f cnt xs).1
  rw [hr] at he h1 h2 h3
  simp only at he h1 h2 h3
  rw [h3] at h2
  exact ⟨he, h1, h2⟩
theorem nxt_range {n : Int} (h0 : 0 ≤ n) (h1 : n ≤ 65535) : 1 ≤ nxt n ∧ nxt n ≤ 65535 := by
  unfold nxt
  split <;> omega
theorem halves_h {w : World} {g : Nat} {c : Ch} (h : IsCh w g c) (m : Nat) (hm : m = c.n / 2) : Calls Try.prog 21 #[.pointer (some ⟨g, 0, none⟩)] w fun e w' => e = .returned (.agg #[.pointer (some ⟨g, 0, none⟩), .int .i64 0, .int .i64 m, .pointer (some ⟨g, 0, none⟩), .int .i64 m, .int .i64 m]) ∧ Hid (Keep Zero w w') := by
  subst hm
  exact halves_any h
theorem keptF_cnt (P : Nat → Int) (n : Nat) (h : ∀ i, 0 ≤ P i ∧ P i ≤ 255) : 0 ≤ (keptF P n).2.1 ∧ (keptF P n).2.1 ≤ 65535 ∧ ((keptF P n).2.2 = 0 ∨ (keptF P n).2.2 = 1) := by
  unfold keptF
  simp only
  split
  · exact ⟨(holdsF_cnt P _ _ h).1, (holdsF_cnt P _ _ h).2, .inr rfl⟩
  · exact ⟨(holdsF_cnt P _ _ h).1, (holdsF_cnt P _ _ h).2, .inl rfl⟩
set_option maxRecDepth 100000 in
set_option maxHeartbeats 8000000 in
theorem Save_any {w : World} {g : Nat} {c : Ch} (h : IsCh w g c) (A : Option Addr) (d : Nat) (xs : List Int) (hx : Src w g c.pg A d xs) (hb : ∀ x ∈ xs, 0 ≤ x ∧ x ≤ 255) (hbig : xs.length ≤ 140737488355328) :
    Calls Try.prog 9 #[.pointer (some ⟨g, 0, none⟩), .slice A xs.length d] w (SavePost w g c.pg (saveF c xs)) := by
  have c0 : w.cell? ⟨g, 0, none⟩ = some (.slice (some ⟨c.pg, 0, none⟩) c.n c.n) := h.chip.cell 0
  have cd : w.cell? ⟨g, 2, none⟩ = some (.bool c.dead) := h.chip.cell 2
  have n0 := h.n0
  have n1 := h.n1
  have H := Lib.hid h
  have HX := Lib.hid hx
  have HB := Lib.hid hb
  have hkc := keptF_cnt c.P c.n h.wf
  obtain ⟨n, hn⟩ : ∃ n, n = xs.length := ⟨_, rfl⟩
  have HN := Lib.hid hn
  rw [← hn] at hbig ⊢
  obtain ⟨⟨kl, kc, kw⟩, hkr⟩ : ∃ r, r = keptF c.P c.n := ⟨_, rfl⟩
  rw [← hkr] at hkc
  obtain ⟨kc0, kc1, kw01⟩ : 0 ≤ kc ∧ kc ≤ 65535 ∧ (kw = 0 ∨ kw = 1) := hkc
  have HNx := Lib.hid (nxt_range kc0 kc1)
  have HKr := Lib.hid hkr
  obtain ⟨m, hm⟩ : ∃ m, m = c.n / 2 := ⟨_, rfl⟩
  have hm1 : 1 ≤ m := by omega
  have hm2 : m + m ≤ c.n := by omega
  have hmn : (c.n : Int) / 2 = (m : Int) := by omega
  have HM := Lib.hid hm
  have HMn := Lib.hid hmn
  clear h hx hb hn hkr hm
  by_cases hlong : 8 * ((m : Int) - 1) < (n : Int)
  · have HF : Hid (saveF c xs = (2, c)) := Lib.hid (by unfold saveF; rw [hmn, ← HN.out, if_pos hlong])
    clear cd
    go_enter Try.func9, Try.ntmps9
    go_wp2
    go_ret
    rw [HF.out]
    exact ⟨rfl, H.out, Keep.refl _ _, rfl⟩
  · obtain ⟨dead, hdead⟩ : ∃ dd, c.dead = dd := ⟨_, rfl⟩
    rw [hdead] at cd
    have HDd := Lib.hid hdead
    clear hdead
    cases dead with
    | true =>
      have HF : Hid (saveF c xs = (6, c)) := Lib.hid (by unfold saveF; rw [hmn, ← HN.out, if_neg hlong, HDd.out]; rfl)
      go_enter Try.func9, Try.ntmps9
      go_wp2
      go_ret
      rw [HF.out]
      exact ⟨rfl, H.out, Keep.refl _ _, rfl⟩
    | false =>
      have HLe : Hid (xs.length ≤ 8 * (m - 1)) := Lib.hid (by rw [← HN.out]; omega)
      obtain ⟨b2, c2, hps⟩ : ∃ b2 c2, putsF c (nextF c.P c.n) (nxt kc) xs = (b2, c2) := ⟨_, _, rfl⟩
      have HF : Hid (saveF c xs = (if b2 then 0 else 6, c2)) := Lib.hid (by
        unfold saveF
        rw [hmn, ← HN.out, if_neg hlong, HDd.out, ← HKr.out]
        simp only [Bool.false_eq_true, if_false]
        rw [hps])
      have HPg : Hid (c2.pg = c.pg) := Lib.hid (by have := (putsF_pg c (nextF c.P c.n) (nxt kc) xs).1; rw [hps] at this; exact this)
      have HPs0 := Lib.hid hps
      clear hps
      go_enter Try.func9, Try.ntmps9
      go_wp2_with fail
      refine (kept_any H.out).mono ?_
      rintro e w1 hp
      rw [← HKr.out] at hp
      obtain ⟨Ak, ck, rfl, h1, h2, h3, hk, h5⟩ := hp
      have HC1 := Lib.hid (H.out.keep hk id id)
      have HX1 := Lib.hid (HX.out.keep hk (fun i hi => hi.elim))
      have HK1 : Hid (Keep (Chp g c.pg) w w1) := Lib.hid (hk.mono (fun i hi => hi.elim))
      clear h1 h2 h3 hk h5
      by_cases hpos : 0 < kc
      · rcases kw01 with rfl | rfl
        · have HPs : Hid (putsF c m (nxt kc) xs = (b2, c2)) := Lib.hid (by
            have h := HPs0.out
            unfold nextF at h
            rw [← HKr.out, ← HM.out, if_pos ⟨hpos, rfl⟩] at h
            exact h)
          have hps : putsF c m (nxt kc) xs = (b2, c2) := HPs.out
          have HPs2 := Lib.hid hps
          clear hps
          have hidx : ∀ w, (Instr.index 56 (.agg #[.pointer (some ⟨g, 0, none⟩), .int .i64 0, .int .i64 (m : Int), .pointer (some ⟨g, 0, none⟩), .int .i64 (m : Int), .int .i64 (m : Int)]) (.int .i64 1)).run Try.prog w = .ok (.agg #[.pointer (some ⟨g, 0, none⟩), .int .i64 ((m : Nat) : Int), .int .i64 (m : Int)]) w := fun _ => by kernel_rfl
          have HC1d : Hid (IsCh w1.drew g c) := Lib.hid (HC1.out.keep ((Keep.refl Own.Zero w1).drew) id id)
          have HX1d : Hid (Src w1.drew g c.pg A d xs) := Lib.hid (HX1.out.keep ((Keep.refl Own.Zero w1).drew) (fun i hi => hi.elim))
          have HK1d : Hid (Keep (Chp g c.pg) w w1.drew) := Lib.hid HK1.out.drew
          go_wp2_with fail
          go_region_with (first | (go_at_call 21; refine (halves_h HC1d.out m HM.out).mono ?_; rintro e w4 ⟨rfl, hk4⟩) | (go_at_call 23; refine (next_any kc kc0 kc1 _).mono ?_; rintro e w' ⟨rfl, rfl⟩) | (go_at_call 22; refine (puts_h (c := c) (IsCh.keep (S := Own.Zero) HC1d.out hk4.out id id) m m hm1 (by omega) (nxt kc) (by have := HNx.out; omega) HNx.out.2 A d xs (Src.keep (S := Own.Zero) HX1d.out hk4.out (fun i hi => hi.elim)) HB.out HLe.out n HN.out b2 c2 HPs2.out).mono ?_; rintro e w5 ⟨rfl, hk5⟩))
          all_goals
            cases b2 with
            | true =>
              go_wp2
              go_ret
              rw [HF.out]
              exact ⟨rfl, hk5.out.1, (HK1d.out.trans hk4.out (fun i hi => hi.elim)).trans hk5.out.2 (fun i hi => .inl hi), HPg.out⟩
            | false =>
              go_wp2
              go_ret
              rw [HF.out]
              exact ⟨rfl, hk5.out.1, (HK1d.out.trans hk4.out (fun i hi => hi.elim)).trans hk5.out.2 (fun i hi => .inl hi), HPg.out⟩
        · have HPs : Hid (putsF c 0 (nxt kc) xs = (b2, c2)) := Lib.hid (by
            have h := HPs0.out
            unfold nextF at h
            rw [← HKr.out, if_neg (fun h => by simp at h)] at h
            exact h)
          have hps : putsF c 0 (nxt kc) xs = (b2, c2) := HPs.out
          have HPs2 := Lib.hid hps
          clear hps
          have hidx : ∀ w, (Instr.index 56 (.agg #[.pointer (some ⟨g, 0, none⟩), .int .i64 0, .int .i64 (m : Int), .pointer (some ⟨g, 0, none⟩), .int .i64 (m : Int), .int .i64 (m : Int)]) (.int .i64 0)).run Try.prog w = .ok (.agg #[.pointer (some ⟨g, 0, none⟩), .int .i64 ((0 : Nat) : Int), .int .i64 (m : Int)]) w := fun _ => by kernel_rfl
          have HC1d : Hid (IsCh w1.drew g c) := Lib.hid (HC1.out.keep ((Keep.refl Own.Zero w1).drew) id id)
          have HX1d : Hid (Src w1.drew g c.pg A d xs) := Lib.hid (HX1.out.keep ((Keep.refl Own.Zero w1).drew) (fun i hi => hi.elim))
          have HK1d : Hid (Keep (Chp g c.pg) w w1.drew) := Lib.hid HK1.out.drew
          go_wp2_with fail
          go_region_with (first | (go_at_call 21; refine (halves_h HC1d.out m HM.out).mono ?_; rintro e w4 ⟨rfl, hk4⟩) | (go_at_call 23; refine (next_any kc kc0 kc1 _).mono ?_; rintro e w' ⟨rfl, rfl⟩) | (go_at_call 22; refine (puts_h (c := c) (IsCh.keep (S := Own.Zero) HC1d.out hk4.out id id) 0 m hm1 (by omega) (nxt kc) (by have := HNx.out; omega) HNx.out.2 A d xs (Src.keep (S := Own.Zero) HX1d.out hk4.out (fun i hi => hi.elim)) HB.out HLe.out n HN.out b2 c2 HPs2.out).mono ?_; rintro e w5 ⟨rfl, hk5⟩))
          all_goals
            cases b2 with
            | true =>
              go_wp2
              go_ret
              rw [HF.out]
              exact ⟨rfl, hk5.out.1, (HK1d.out.trans hk4.out (fun i hi => hi.elim)).trans hk5.out.2 (fun i hi => .inl hi), HPg.out⟩
            | false =>
              go_wp2
              go_ret
              rw [HF.out]
              exact ⟨rfl, hk5.out.1, (HK1d.out.trans hk4.out (fun i hi => hi.elim)).trans hk5.out.2 (fun i hi => .inl hi), HPg.out⟩
      · have hz : kc = 0 := by omega
        have HPs : Hid (putsF c 0 (nxt kc) xs = (b2, c2)) := Lib.hid (by
          have h := HPs0.out
          unfold nextF at h
          rw [← HKr.out, if_neg (fun h => hpos h.1)] at h
          exact h)
        have tp : decide (0 < kc) = false := decide_eq_false hpos
        clear hz hpos kw01
        have hps : putsF c 0 (nxt kc) xs = (b2, c2) := HPs.out
        have HPs2 := Lib.hid hps
        clear hps
        have hidx : ∀ w, (Instr.index 56 (.agg #[.pointer (some ⟨g, 0, none⟩), .int .i64 0, .int .i64 (m : Int), .pointer (some ⟨g, 0, none⟩), .int .i64 (m : Int), .int .i64 (m : Int)]) (.int .i64 0)).run Try.prog w = .ok (.agg #[.pointer (some ⟨g, 0, none⟩), .int .i64 ((0 : Nat) : Int), .int .i64 (m : Int)]) w := fun _ => by kernel_rfl
        have HC1d : Hid (IsCh w1.drew g c) := Lib.hid (HC1.out.keep ((Keep.refl Own.Zero w1).drew) id id)
        have HX1d : Hid (Src w1.drew g c.pg A d xs) := Lib.hid (HX1.out.keep ((Keep.refl Own.Zero w1).drew) (fun i hi => hi.elim))
        have HK1d : Hid (Keep (Chp g c.pg) w w1.drew) := Lib.hid HK1.out.drew
        go_wp2_with fail
        go_region_with (first | (go_at_call 21; refine (halves_h HC1d.out m HM.out).mono ?_; rintro e w4 ⟨rfl, hk4⟩) | (go_at_call 23; refine (next_any kc kc0 kc1 _).mono ?_; rintro e w' ⟨rfl, rfl⟩) | (go_at_call 22; refine (puts_h (c := c) (IsCh.keep (S := Own.Zero) HC1d.out hk4.out id id) 0 m hm1 (by omega) (nxt kc) (by have := HNx.out; omega) HNx.out.2 A d xs (Src.keep (S := Own.Zero) HX1d.out hk4.out (fun i hi => hi.elim)) HB.out HLe.out n HN.out b2 c2 HPs2.out).mono ?_; rintro e w5 ⟨rfl, hk5⟩))
        all_goals
          cases b2 with
          | true =>
            go_wp2
            go_ret
            rw [HF.out]
            exact ⟨rfl, hk5.out.1, (HK1d.out.trans hk4.out (fun i hi => hi.elim)).trans hk5.out.2 (fun i hi => .inl hi), HPg.out⟩
          | false =>
            go_wp2
            go_ret
            rw [HF.out]
            exact ⟨rfl, hk5.out.1, (HK1d.out.trans hk4.out (fun i hi => hi.elim)).trans hk5.out.2 (fun i hi => .inl hi), HPg.out⟩
end Go.Proofs.Ytgegpeicpbhnkaa.Nvm
