/- NvmWhole's walk. -/
import Derived.Test.YtgegpeicpbhnkaaNvmAgain
import Derived.Test.YtgegpeicpbhnkaaArgs
namespace Go.Proofs.Ytgegpeicpbhnkaa.Nvm
open Go.RowKit Go.Proofs.Ytgegpeicpbhnkaa.Own Go.Proofs.Ytgegpeicpbhnkaa.Crc
def InsAt (w : World) (A : Option Addr) (xs : List (List Int)) : Prop := ∀ i x, xs[i]? = some x → ∃ b o A' c', A = some ⟨b, o, none⟩ ∧ b < w.heap.size ∧ w.cell? ⟨b, o + i, none⟩ = some (.slice A' x.length c') ∧ In w A' c' x
/-- What a Save on a chip with so much power left comes to: it is kept, or the power is gone. -/
def Outcome (w : World) (g : Nat) (c : Ch) (xs ys : List Int) (k : Int) (e : Ending) (w' : World) : Prop :=
  (∃ P left, e = .returned (.int .i64 0) ∧ Hid (IsCh w' g ⟨c.pg, c.n, P, left, false⟩ ∧ Kept ⟨c.pg, c.n, P, -1, false⟩ xs (nxt k) ∧ Keep (Chp g c.pg) w w')) ∨
  (∃ P, e = .returned (.int .i64 6) ∧ Hid (IsCh w' g ⟨c.pg, c.n, P, -1, true⟩ ∧ Kept ⟨c.pg, c.n, P, -1, false⟩ ys k ∧ Keep (Chp g c.pg) w w'))
theorem Save_u {w : World} {g : Nat} {c : Ch} (h : IsCh w g c) (hd : c.dead = false) (A : Option Addr) (d : Nat) (xs : List Int) (hx : Src w g c.pg A d xs) (hb : ∀ x ∈ xs, 0 ≤ x ∧ x ≤ 255) (hf : fits c xs) (ys : List Int) (k : Int) (hk : Kept c ys k) (n : Nat) (hn : n = xs.length) :
    Calls Try.prog 9 #[.pointer (some ⟨g, 0, none⟩), .slice A n d] w (Outcome w g c xs ys k) := by
  subst hn
  by_cases hl : c.left < 0
  · refine (Save_l h hd hl A d xs hx hb hf ys k hk).mono ?_
    rintro e w' ⟨he, P, hp⟩
    exact .inl ⟨P, c.left, he, hp.out.1, hp.out.2.1, hp.out.2.2⟩
  · by_cases hg : 2 + (pagesOf xs : Int) ≤ c.left
    · refine (Save_goes h hd A d xs hx hb hf hg ys k hk).mono ?_
      rintro e w' ⟨he, P, hp⟩
      exact .inl ⟨P, _, he, hp.out.1, hp.out.2.1, hp.out.2.2⟩
    · refine (Save_gone h hd (by omega) A d xs hx hb hf (by omega) ys k hk).mono ?_
      rintro e w' ⟨he, P, hp⟩
      exact .inr ⟨P, he, hp.out.1, hp.out.2.1, hp.out.2.2⟩
theorem Save_long_h {w : World} {g : Nat} {c : Ch} (h : IsCh w g c) (A : Option Addr) (d : Nat) (xs : List Int) (hx : Src w g c.pg A d xs) (hb : ∀ x ∈ xs, 0 ≤ x ∧ x ≤ 255) (hbig : xs.length ≤ 140737488355328) (hf : ¬ fits c xs) (n : Nat) (hn : n = xs.length) :
    Calls Try.prog 9 #[.pointer (some ⟨g, 0, none⟩), .slice A n d] w fun e w' => e = .returned (.int .i64 2) ∧ Hid (IsCh w' g c ∧ Keep (Chp g c.pg) w w') := by
  subst hn
  exact Save_long h A d xs hx hb hbig hf
theorem Load_h {w : World} {g : Nat} {c : Ch} (h : IsCh w g c) (xs : List Int) (k : Int) (hk : Kept c xs k) (n : Nat) (hn : n = xs.length) (b : Bool) (hb : decide (0 < k) = b) : Calls Try.prog 10 #[.pointer (some ⟨g, 0, none⟩)] w fun e w' => ∃ A c, e = .returned (.tuple #[.slice A n c, .bool b]) ∧ Hid (Row w' A (ints .u8 xs) ∧ Keep Zero w w') := by
  subst hn hb
  refine (Load_k h xs k hk).mono ?_
  rintro e w' ⟨A, c, he, hp⟩
  exact ⟨A, c, he, hp.out.1, hp.out.2.2.2.1⟩
theorem Room_is {w : World} {g : Nat} {c : Ch} {n : Nat} (h : IsCh w g c) (hn : c.n = 20) : Calls Try.prog 11 #[.pointer (some ⟨g, 0, none⟩)] (w.drewN n) fun e w' => e = .returned (.int .i64 72) ∧ w.drewN n = w' := by
  refine (Room_any (w := w.drewN n) (h.keep (S := Own.Zero) ((Keep.refl _ _).drewN n) id id)).mono ?_
  rintro e w' ⟨he, hw⟩
  rw [hn] at he
  exact ⟨he, hw⟩
theorem Dead_is {w : World} {g : Nat} {c : Ch} {n : Nat} {b : Bool} (h : IsCh w g c) (hb : c.dead = b) : Calls Try.prog 14 #[.pointer (some ⟨g, 0, none⟩)] (w.drewN n) fun e w' => e = .returned (.bool b) ∧ w.drewN n = w' := by
  subst hb
  exact Dead_any (w := w.drewN n) (h.keep (S := Own.Zero) ((Keep.refl _ _).drewN n) id id)
/-- One round behind its Save: Power, Load, compare. -/
def Held (w wr : World) (g pg : Nat) (ks : List Int) (kk : Int) (Q : Nat → Int) (left : Int) (dead : Bool) : Prop := IsCh wr g ⟨pg, 20, Q, left, dead⟩ ∧ Kept ⟨pg, 20, Q, -1, false⟩ ks kk ∧ 0 ≤ kk ∧ kk ≤ 65535 ∧ (kk = 0 → ks = []) ∧ Keep Zero w wr
set_option maxRecDepth 100000 in
set_option maxHeartbeats 16000000 in
theorem whole_walk (A C : Option Addr) (ca cc : Nat) (xs : List (List Int)) (cs : List Int) (w : World) (hx : InsAt w A xs) (hl : xs.length ≤ 140737488355328) (hy : In w C cc cs) :
    Calls Try.prog 4 #[.slice A xs.length ca, .slice C cs.length cc] w fun e w' => e = .returned (.bool true) ∧ Keep Zero w w' := by
  have HX := Lib.hid hx
  have HY := Lib.hid hy
  obtain ⟨L, hL⟩ : ∃ L, L = xs.length := ⟨_, rfl⟩
  obtain ⟨m, hm⟩ : ∃ m, m = cs.length := ⟨_, rfl⟩
  have HL := Lib.hid hL
  have HM := Lib.hid hm
  have Lb : L ≤ 140737488355328 := by rw [hL]; exact hl
  have mb : m ≤ 140737488355328 := by rw [hm]; exact hy.big
  rw [← hL, ← hm]
  clear hx hy hL hm hl
  go_enter Try.func4, Try.ntmps4
  go_wp2_with fail
  refine (New_ok 20 (by decide) (by decide) _).mono ?_
  rintro e w1 ⟨g, pg, rfl, hc, hg, hpg, hk⟩
  have HC1 := Lib.hid hc
  have HK1 := Lib.hid hk
  have HG : Hid (w.heap.size ≤ g ∧ w.heap.size ≤ pg) := Lib.hid ⟨hg, hpg⟩
  clear hc hk hg hpg
  go_wp2_with fail
  go_loopg [7, 8, 9] L (fun k s7 s8 s9 wr => ∃ (j : Nat) (B : Option Addr) (nb cb : Nat) (ks : List Int) (kk : Int) (Q : Nat → Int), j ≤ L ∧ k = L - j ∧ s9 = .int .i64 j ∧ s8 = .bool (decide (0 < kk)) ∧ s7 = .slice B nb cb ∧ nb = ks.length ∧ Held w wr g pg ks kk Q (-1) false ∧ ∀ w', Keep Zero w w' → Row w' B (ints .u8 ks))
  case atStart => exact ⟨0, _, 0, 0, [], 0, (Ch.new pg 20).P, by omega, rfl, rfl, rfl, rfl, rfl, ⟨HC1.out.keep ((Keep.refl Zero w1).alloc _) id id, kept_fresh pg 20, by omega, by omega, fun _ => rfl, HK1.out.alloc _⟩, fun _ _ i v h => by simp [ints] at h⟩
  case round =>
    obtain ⟨w2, hw2⟩ : ∃ x, x = wr := ⟨_, rfl⟩
    subst hw2
    obtain ⟨j, B, nb, cb, ks, kk, Q, hj, hk, rfl, rfl, rfl, hnb, hh, hrow⟩ := hrel
    have HMs := Lib.hid hk
    have HNb := Lib.hid hnb
    have HH := Lib.hid hh
    have HRow := Lib.hid hrow
    clear hk hnb hh hrow
    by_cases hlt : j < L
    · have h1 : (j : Int) < (L : Int) := by omega
      have h0 : (0 : Int) ≤ (j : Int) := by omega
      obtain ⟨x, hxj⟩ : ∃ x, xs[j]? = some x := ⟨xs[j]'(by rw [← HL.out]; exact hlt), List.getElem?_eq_getElem _⟩
      obtain ⟨b, o, Ax, cx, rfl, lb, gb, hin⟩ := HX.out j x hxj
      have HIx := Lib.hid hin
      obtain ⟨n, hn⟩ : ∃ n, n = x.length := ⟨_, rfl⟩
      have HN := Lib.hid hn
      have nbig : n ≤ 140737488355328 := by rw [hn]; exact hin.big
      rw [← hn] at gb
      have HGb := Lib.hid (And.intro lb gb)
      obtain ⟨bb, hbb⟩ : ∃ bb, decide (0 < kk) = bb := ⟨_, rfl⟩
      have HBb := Lib.hid hbb
      rw [hbb]
      have HCr : Hid (IsCh w2 g ⟨pg, 20, Q, -1, false⟩) := Lib.hid HH.out.1
      have HKr : Hid (Keep Zero w w2) := Lib.hid HH.out.2.2.2.2.2
      clear hn hin lb gb hbb hxj
      by_cases hm0 : m = 0
      · subst hm0
        have HR2 : Hid (Row (w2.alloc (.cells #[] 5)) Ax (ints .u8 x)) := Lib.hid (HIx.out.row.keep (HKr.out.alloc (.cells #[] 5)) (fun _ _ _ => id))
        have gb2 : (w2.alloc (.cells #[] 5)).cell? ⟨b, o + j, none⟩ = some (.slice Ax n cx) := ((HKr.out.alloc (.cells #[] 5)).cell (p := ⟨b, o + j, none⟩) HGb.out.1 id).trans HGb.out.2
        go_wp2_with (at_builtin; refine app_own rfl (.tmp 53) (.tmp 57) 22 rfl w2.heap.size 5 (.int .u8 0) 1 1 under22 info5 rfl (by decide) (.slice (some ⟨w2.heap.size, 0, none⟩) 0 0) 0 [] rfl (own_empty 1 (Blk.new w2 _ _)) Ax n cx (ints .u8 x) rfl (by rw [ints_length, HN.out]; omega) HIx.out.nil HR2.out (ints_one _ _) (by unfold maxLen; omega) (by omega) (by simp) ?_; intro v3 w3 hown3 hgr3)
        obtain ⟨hc3, hk3, A3, d3, rfl, hs3⟩ := copied HCr.out HN.out hown3 hgr3
        have HC3 : Hid (IsCh w3 g ⟨pg, 20, Q, -1, false⟩) := Lib.hid hc3
        have HK3 := Lib.hid (HKr.out.trans hk3 (fun i hi => hi.elim))
        have HS3 := Lib.hid hs3
        clear hown3 hgr3 hc3 hk3 hs3 gb2
        go_wp2_with fail
        by_cases hf : (x.length : Int) ≤ 8 * (((20 : Nat) : Int) / 2 - 1)
        · have HF := Lib.hid hf
          have hfl : (n : Int) ≤ 72 := by have := HN.out; omega
          clear hf
          refine (Save_u HC3.out rfl A3 d3 x HS3.out HIx.out.byte HF.out ks kk HH.out.2.1 n HN.out).mono ?_
          rintro e w4 (⟨P4, left4, rfl, hp⟩ | ⟨P4, rfl, hp⟩)
          · have HC4 : Hid (IsCh w4 g ⟨pg, 20, P4, left4, false⟩) := Lib.hid hp.out.1
            have HKp4 : Hid (Kept ⟨pg, 20, P4, -1, false⟩ x (nxt kk)) := Lib.hid hp.out.2.1
            have HK4 : Hid (Keep Zero w w4) := Lib.hid (HK3.out.trans hp.out.2.2 (far_chip HG.out.1 HG.out.2))
            have HNq := Lib.hid (nxt_range HH.out.2.2.1 HH.out.2.2.2.1)
            have HBn : Hid (decide (0 < nxt kk) = true) := Lib.hid (decide_eq_true (by have := HNq.out; omega))
            have gb4 : w4.cell? ⟨b, o + j, none⟩ = some (.slice Ax n cx) := (HK4.out.cell (p := ⟨b, o + j, none⟩) HGb.out.1 id).trans HGb.out.2
            clear hp
            go_wp2_with fail
            refine (Power_any HC4.out).mono ?_
            rintro e w7 ⟨rfl, hc, hk⟩
            have HC7 : Hid (IsCh w7 g ⟨pg, 20, P4, -1, false⟩) := Lib.hid hc
            have HK7 := Lib.hid (HK4.out.trans hk (fun i hi => .inr (by have := HG.out; unfold Own.One at hi; omega)))
            clear hc hk
            go_wp2_with fail
            refine (Load_h HC7.out x (nxt kk) HKp4.out n HN.out true HBn.out).mono ?_
            rintro e w8 ⟨A8, d8, rfl, hp⟩
            have HK8 := Lib.hid (HK7.out.trans hp.out.2 (fun i hi => hi.elim))
            have HC8 := Lib.hid (HC7.out.keep hp.out.2 id id)
            have r1 : Sem.run Try.prog (convert 22 9 (.slice A8 n d8)) w8 = .ok (.string (str x)) w8 := run_str under22 under5 under9 hp.out.1 n HN.out
            have r2 : Sem.run Try.prog (convert 22 9 (.slice Ax n cx)) w8 = .ok (.string (str x)) w8 := run_str under22 under5 under9 (by first | exact HRow.out w8 HK8.out | exact HIx.out.row.keep HK8.out (fun _ _ _ => id)) n HN.out
            clear hp
            go_wp2_with fail
            go_roundg (L - (j + 1))
            case measure => rw [HMs.out]; omega
            case rel => exact ⟨j + 1, Ax, n, cx, x, nxt kk, P4, hlt, rfl, by go_num, by rw [HBn.out], rfl, HN.out, ⟨HC8.out, HKp4.out, by have := HNq.out; omega, HNq.out.2, (fun h => by have := HNq.out; omega), HK8.out⟩, fun w' hk' => HIx.out.row.keep hk' (fun _ _ _ => id)⟩
          · have HC4 : Hid (IsCh w4 g ⟨pg, 20, P4, -1, true⟩) := Lib.hid hp.out.1
            have HKp4 : Hid (Kept ⟨pg, 20, P4, -1, false⟩ ks kk) := Lib.hid hp.out.2.1
            have HK4 : Hid (Keep Zero w w4) := Lib.hid (HK3.out.trans hp.out.2.2 (far_chip HG.out.1 HG.out.2))
            have gb4 : w4.cell? ⟨b, o + j, none⟩ = some (.slice Ax n cx) := (HK4.out.cell (p := ⟨b, o + j, none⟩) HGb.out.1 id).trans HGb.out.2
            clear hp
            go_wp2_with fail
            go_quiet ((first | (go_at_call 11; exact quiet_eq (Room_is HC4.out rfl)) | (go_at_call 14; exact quiet_eq (Dead_is HC4.out rfl))))
            clear gb4
            have HC4q := Lib.hid (fun m => HC4.out.keep (S := Own.Zero) ((Keep.refl _ _).drewN m) id id)
            have HK4q := Lib.hid (fun m => HK4.out.drewN m)
            cases bb with
            | true =>
              go_wp2_with fail
              refine (Power_any (HC4q.out _)).mono ?_
              rintro e w7 ⟨rfl, hc, hk⟩
              have HC7 : Hid (IsCh w7 g ⟨pg, 20, P4, -1, false⟩) := Lib.hid hc
              have HK7 := Lib.hid ((HK4q.out _).trans hk (fun i hi => .inr (by have := HG.out; unfold Own.One at hi; omega)))
              clear hc hk
              go_wp2_with fail
              refine (Load_h HC7.out ks (kk) HKp4.out nb HNb.out true HBb.out).mono ?_
              rintro e w8 ⟨A8, d8, rfl, hp⟩
              have HK8 := Lib.hid (HK7.out.trans hp.out.2 (fun i hi => hi.elim))
              have HC8 := Lib.hid (HC7.out.keep hp.out.2 id id)
              have r1 : Sem.run Try.prog (convert 22 9 (.slice A8 nb d8)) w8 = .ok (.string (str ks)) w8 := run_str under22 under5 under9 hp.out.1 nb HNb.out
              have r2 : Sem.run Try.prog (convert 22 9 (.slice B nb cb)) w8 = .ok (.string (str ks)) w8 := run_str under22 under5 under9 (by first | exact HRow.out w8 HK8.out | exact HIx.out.row.keep HK8.out (fun _ _ _ => id)) nb HNb.out
              clear hp
              go_wp2_with fail
              go_roundg (L - (j + 1))
              case measure => rw [HMs.out]; omega
              case rel => exact ⟨j + 1, B, nb, cb, ks, kk, P4, hlt, rfl, by go_num, by rw [HBb.out], rfl, HNb.out, ⟨HC8.out, HKp4.out, HH.out.2.2.1, HH.out.2.2.2.1, HH.out.2.2.2.2.1, HK8.out⟩, HRow.out⟩
            | false =>
              have hnil : ks = [] := HH.out.2.2.2.2.1 (by have h5 := of_decide_eq_false HBb.out; have h6 := HH.out.2.2.1; omega)
              have hnb0 : nb = 0 := by rw [HNb.out, hnil]; rfl
              have HNil := Lib.hid hnil
              subst hnb0
              clear hnil
              go_wp2_with fail
              refine (Power_any (HC4q.out _)).mono ?_
              rintro e w7 ⟨rfl, hc, hk⟩
              have HC7 : Hid (IsCh w7 g ⟨pg, 20, P4, -1, false⟩) := Lib.hid hc
              have HK7 := Lib.hid ((HK4q.out _).trans hk (fun i hi => .inr (by have := HG.out; unfold Own.One at hi; omega)))
              clear hc hk
              go_wp2_with fail
              refine (Load_h HC7.out ks (kk) HKp4.out 0 HNb.out false HBb.out).mono ?_
              rintro e w8 ⟨A8, d8, rfl, hp⟩
              have HK8 := Lib.hid (HK7.out.trans hp.out.2 (fun i hi => hi.elim))
              have HC8 := Lib.hid (HC7.out.keep hp.out.2 id id)
              have r1 : Sem.run Try.prog (convert 22 9 (.slice A8 0 d8)) w8 = .ok (.string (str ks)) w8 := run_str under22 under5 under9 hp.out.1 0 HNb.out
              have r2 : Sem.run Try.prog (convert 22 9 (.slice B 0 cb)) w8 = .ok (.string (str ks)) w8 := run_str under22 under5 under9 (by first | exact HRow.out w8 HK8.out | exact HIx.out.row.keep HK8.out (fun _ _ _ => id)) 0 HNb.out
              clear hp
              go_wp2_with fail
              go_roundg (L - (j + 1))
              case measure => rw [HMs.out]; omega
              case rel => exact ⟨j + 1, B, 0, cb, ks, kk, P4, hlt, rfl, by go_num, by rw [HBb.out], rfl, HNb.out, ⟨HC8.out, HKp4.out, HH.out.2.2.1, HH.out.2.2.2.1, HH.out.2.2.2.2.1, HK8.out⟩, HRow.out⟩
        · have HF : Hid (¬ fits ⟨pg, 20, Q, -1, false⟩ x) := Lib.hid hf
          have hfl : decide ((n : Int) ≤ 72) = false := by
            have := HN.out
            simp
            omega
          clear hf
          refine (Save_long_h HC3.out A3 d3 x HS3.out HIx.out.byte HIx.out.big HF.out n HN.out).mono ?_
          rintro e w4 ⟨rfl, hp⟩
          have HC4 : Hid (IsCh w4 g ⟨pg, 20, Q, -1, false⟩) := Lib.hid hp.out.1
          have HKp4 : Hid (Kept ⟨pg, 20, Q, -1, false⟩ ks kk) := Lib.hid HH.out.2.1
          have HK4 : Hid (Keep Zero w w4) := Lib.hid (HK3.out.trans hp.out.2 (far_chip HG.out.1 HG.out.2))
          have gb4 : w4.cell? ⟨b, o + j, none⟩ = some (.slice Ax n cx) := (HK4.out.cell (p := ⟨b, o + j, none⟩) HGb.out.1 id).trans HGb.out.2
          clear hp
          go_wp2_with fail
          go_quiet ((first | (go_at_call 11; exact quiet_eq (Room_is HC4.out rfl)) | (go_at_call 14; exact quiet_eq (Dead_is HC4.out rfl))))
          clear gb4
          have HC4q := Lib.hid (fun m => HC4.out.keep (S := Own.Zero) ((Keep.refl _ _).drewN m) id id)
          have HK4q := Lib.hid (fun m => HK4.out.drewN m)
          cases bb with
          | true =>
            go_wp2_with fail
            refine (Power_any (HC4q.out _)).mono ?_
            rintro e w7 ⟨rfl, hc, hk⟩
            have HC7 : Hid (IsCh w7 g ⟨pg, 20, Q, -1, false⟩) := Lib.hid hc
            have HK7 := Lib.hid ((HK4q.out _).trans hk (fun i hi => .inr (by have := HG.out; unfold Own.One at hi; omega)))
            clear hc hk
            go_wp2_with fail
            refine (Load_h HC7.out ks (kk) HKp4.out nb HNb.out true HBb.out).mono ?_
            rintro e w8 ⟨A8, d8, rfl, hp⟩
            have HK8 := Lib.hid (HK7.out.trans hp.out.2 (fun i hi => hi.elim))
            have HC8 := Lib.hid (HC7.out.keep hp.out.2 id id)
            have r1 : Sem.run Try.prog (convert 22 9 (.slice A8 nb d8)) w8 = .ok (.string (str ks)) w8 := run_str under22 under5 under9 hp.out.1 nb HNb.out
            have r2 : Sem.run Try.prog (convert 22 9 (.slice B nb cb)) w8 = .ok (.string (str ks)) w8 := run_str under22 under5 under9 (by first | exact HRow.out w8 HK8.out | exact HIx.out.row.keep HK8.out (fun _ _ _ => id)) nb HNb.out
            clear hp
            go_wp2_with fail
            go_roundg (L - (j + 1))
            case measure => rw [HMs.out]; omega
            case rel => exact ⟨j + 1, B, nb, cb, ks, kk, Q, hlt, rfl, by go_num, by rw [HBb.out], rfl, HNb.out, ⟨HC8.out, HKp4.out, HH.out.2.2.1, HH.out.2.2.2.1, HH.out.2.2.2.2.1, HK8.out⟩, HRow.out⟩
          | false =>
            have hnil : ks = [] := HH.out.2.2.2.2.1 (by have h5 := of_decide_eq_false HBb.out; have h6 := HH.out.2.2.1; omega)
            have hnb0 : nb = 0 := by rw [HNb.out, hnil]; rfl
            have HNil := Lib.hid hnil
            subst hnb0
            clear hnil
            go_wp2_with fail
            refine (Power_any (HC4q.out _)).mono ?_
            rintro e w7 ⟨rfl, hc, hk⟩
            have HC7 : Hid (IsCh w7 g ⟨pg, 20, Q, -1, false⟩) := Lib.hid hc
            have HK7 := Lib.hid ((HK4q.out _).trans hk (fun i hi => .inr (by have := HG.out; unfold Own.One at hi; omega)))
            clear hc hk
            go_wp2_with fail
            refine (Load_h HC7.out ks (kk) HKp4.out 0 HNb.out false HBb.out).mono ?_
            rintro e w8 ⟨A8, d8, rfl, hp⟩
            have HK8 := Lib.hid (HK7.out.trans hp.out.2 (fun i hi => hi.elim))
            have HC8 := Lib.hid (HC7.out.keep hp.out.2 id id)
            have r1 : Sem.run Try.prog (convert 22 9 (.slice A8 0 d8)) w8 = .ok (.string (str ks)) w8 := run_str under22 under5 under9 hp.out.1 0 HNb.out
            have r2 : Sem.run Try.prog (convert 22 9 (.slice B 0 cb)) w8 = .ok (.string (str ks)) w8 := run_str under22 under5 under9 (by first | exact HRow.out w8 HK8.out | exact HIx.out.row.keep HK8.out (fun _ _ _ => id)) 0 HNb.out
            clear hp
            go_wp2_with fail
            go_roundg (L - (j + 1))
            case measure => rw [HMs.out]; omega
            case rel => exact ⟨j + 1, B, 0, cb, ks, kk, Q, hlt, rfl, by go_num, by rw [HBb.out], rfl, HNb.out, ⟨HC8.out, HKp4.out, HH.out.2.2.1, HH.out.2.2.2.1, HH.out.2.2.2.2.1, HK8.out⟩, HRow.out⟩
      · have hm1 : 0 < m := by omega
        obtain ⟨i, hi⟩ : ∃ i, i = j % m := ⟨_, rfl⟩
        have hi1 : i < m := by rw [hi]; exact Nat.mod_lt _ hm1
        have hm2 : (0 : Int) < (m : Int) := by omega
        have hi2 : (i : Int) < (m : Int) := by omega
        have hi3 : (0 : Int) ≤ (i : Int) := by omega
        have q2 : (j : Int).tmod m = (i : Int) := by rw [hi, Int.tmod_eq_emod_of_nonneg h0]; rfl
        obtain ⟨q, hq⟩ : ∃ q, cs[i]? = some q := ⟨cs[i]'(by rw [← HM.out]; exact hi1), List.getElem?_eq_getElem _⟩
        obtain ⟨bc, oc, rfl, lc, gc⟩ := HY.out.row i (.int .u8 q) (by rw [ints_get, hq]; rfl)
        obtain ⟨qa, qb⟩ := HY.out.byte q (List.mem_of_getElem? hq)
        have gc2 : w2.cell? ⟨bc, oc + i, none⟩ = some (.int .u8 q) := (HKr.out.cell (p := ⟨bc, oc + i, none⟩) lc id).trans gc
        clear hi hq gc lc hm0 hi1
        have hm3 : ¬ (m : Int) = 0 := by omega
        by_cases hq12 : q < 12
        · go_wp2_with fail
          refine (Cut_any HCr.out q (by omega)).mono ?_
          clear gc2
          rintro e w2 ⟨rfl, hc, hk⟩
          have HC2 : Hid (IsCh w2 g ⟨pg, 20, Q, q, false⟩) := Lib.hid (by
            have h := hc
            unfold Ch.cut at h
            rw [show max q (-1) = q by omega] at h
            exact h)
          have HK2 := Lib.hid (HKr.out.trans hk (fun i hi => .inr (by have := HG.out; unfold Own.One at hi; omega)))
          clear hc hk
          have HR2 : Hid (Row (w2.alloc (.cells #[] 5)) Ax (ints .u8 x)) := Lib.hid (HIx.out.row.keep (HK2.out.alloc (.cells #[] 5)) (fun _ _ _ => id))
          have gb2 : (w2.alloc (.cells #[] 5)).cell? ⟨b, o + j, none⟩ = some (.slice Ax n cx) := ((HK2.out.alloc (.cells #[] 5)).cell (p := ⟨b, o + j, none⟩) HGb.out.1 id).trans HGb.out.2
          go_wp2_with (at_builtin; refine app_own rfl (.tmp 53) (.tmp 57) 22 rfl w2.heap.size 5 (.int .u8 0) 1 1 under22 info5 rfl (by decide) (.slice (some ⟨w2.heap.size, 0, none⟩) 0 0) 0 [] rfl (own_empty 1 (Blk.new w2 _ _)) Ax n cx (ints .u8 x) rfl (by rw [ints_length, HN.out]; omega) HIx.out.nil HR2.out (ints_one _ _) (by unfold maxLen; omega) (by omega) (by simp) ?_; intro v3 w3 hown3 hgr3)
          obtain ⟨hc3, hk3, A3, d3, rfl, hs3⟩ := copied HC2.out HN.out hown3 hgr3
          have HC3 : Hid (IsCh w3 g ⟨pg, 20, Q, q, false⟩) := Lib.hid hc3
          have HK3 := Lib.hid (HK2.out.trans hk3 (fun i hi => hi.elim))
          have HS3 := Lib.hid hs3
          clear hown3 hgr3 hc3 hk3 hs3 gb2
          go_wp2_with fail
          by_cases hf : (x.length : Int) ≤ 8 * (((20 : Nat) : Int) / 2 - 1)
          · have HF := Lib.hid hf
            have hfl : (n : Int) ≤ 72 := by have := HN.out; omega
            clear hf
            refine (Save_u HC3.out rfl A3 d3 x HS3.out HIx.out.byte HF.out ks kk HH.out.2.1 n HN.out).mono ?_
            rintro e w4 (⟨P4, left4, rfl, hp⟩ | ⟨P4, rfl, hp⟩)
            · have HC4 : Hid (IsCh w4 g ⟨pg, 20, P4, left4, false⟩) := Lib.hid hp.out.1
              have HKp4 : Hid (Kept ⟨pg, 20, P4, -1, false⟩ x (nxt kk)) := Lib.hid hp.out.2.1
              have HK4 : Hid (Keep Zero w w4) := Lib.hid (HK3.out.trans hp.out.2.2 (far_chip HG.out.1 HG.out.2))
              have HNq := Lib.hid (nxt_range HH.out.2.2.1 HH.out.2.2.2.1)
              have HBn : Hid (decide (0 < nxt kk) = true) := Lib.hid (decide_eq_true (by have := HNq.out; omega))
              have gb4 : w4.cell? ⟨b, o + j, none⟩ = some (.slice Ax n cx) := (HK4.out.cell (p := ⟨b, o + j, none⟩) HGb.out.1 id).trans HGb.out.2
              clear hp
              go_wp2_with fail
              refine (Power_any HC4.out).mono ?_
              rintro e w7 ⟨rfl, hc, hk⟩
              have HC7 : Hid (IsCh w7 g ⟨pg, 20, P4, -1, false⟩) := Lib.hid hc
              have HK7 := Lib.hid (HK4.out.trans hk (fun i hi => .inr (by have := HG.out; unfold Own.One at hi; omega)))
              clear hc hk
              go_wp2_with fail
              refine (Load_h HC7.out x (nxt kk) HKp4.out n HN.out true HBn.out).mono ?_
              rintro e w8 ⟨A8, d8, rfl, hp⟩
              have HK8 := Lib.hid (HK7.out.trans hp.out.2 (fun i hi => hi.elim))
              have HC8 := Lib.hid (HC7.out.keep hp.out.2 id id)
              have r1 : Sem.run Try.prog (convert 22 9 (.slice A8 n d8)) w8 = .ok (.string (str x)) w8 := run_str under22 under5 under9 hp.out.1 n HN.out
              have r2 : Sem.run Try.prog (convert 22 9 (.slice Ax n cx)) w8 = .ok (.string (str x)) w8 := run_str under22 under5 under9 (by first | exact HRow.out w8 HK8.out | exact HIx.out.row.keep HK8.out (fun _ _ _ => id)) n HN.out
              clear hp
              go_wp2_with fail
              go_roundg (L - (j + 1))
              case measure => rw [HMs.out]; omega
              case rel => exact ⟨j + 1, Ax, n, cx, x, nxt kk, P4, hlt, rfl, by go_num, by rw [HBn.out], rfl, HN.out, ⟨HC8.out, HKp4.out, by have := HNq.out; omega, HNq.out.2, (fun h => by have := HNq.out; omega), HK8.out⟩, fun w' hk' => HIx.out.row.keep hk' (fun _ _ _ => id)⟩
            · have HC4 : Hid (IsCh w4 g ⟨pg, 20, P4, -1, true⟩) := Lib.hid hp.out.1
              have HKp4 : Hid (Kept ⟨pg, 20, P4, -1, false⟩ ks kk) := Lib.hid hp.out.2.1
              have HK4 : Hid (Keep Zero w w4) := Lib.hid (HK3.out.trans hp.out.2.2 (far_chip HG.out.1 HG.out.2))
              have gb4 : w4.cell? ⟨b, o + j, none⟩ = some (.slice Ax n cx) := (HK4.out.cell (p := ⟨b, o + j, none⟩) HGb.out.1 id).trans HGb.out.2
              clear hp
              go_wp2_with fail
              go_quiet ((first | (go_at_call 11; exact quiet_eq (Room_is HC4.out rfl)) | (go_at_call 14; exact quiet_eq (Dead_is HC4.out rfl))))
              clear gb4
              have HC4q := Lib.hid (fun m => HC4.out.keep (S := Own.Zero) ((Keep.refl _ _).drewN m) id id)
              have HK4q := Lib.hid (fun m => HK4.out.drewN m)
              cases bb with
              | true =>
                go_wp2_with fail
                refine (Power_any (HC4q.out _)).mono ?_
                rintro e w7 ⟨rfl, hc, hk⟩
                have HC7 : Hid (IsCh w7 g ⟨pg, 20, P4, -1, false⟩) := Lib.hid hc
                have HK7 := Lib.hid ((HK4q.out _).trans hk (fun i hi => .inr (by have := HG.out; unfold Own.One at hi; omega)))
                clear hc hk
                go_wp2_with fail
                refine (Load_h HC7.out ks (kk) HKp4.out nb HNb.out true HBb.out).mono ?_
                rintro e w8 ⟨A8, d8, rfl, hp⟩
                have HK8 := Lib.hid (HK7.out.trans hp.out.2 (fun i hi => hi.elim))
                have HC8 := Lib.hid (HC7.out.keep hp.out.2 id id)
                have r1 : Sem.run Try.prog (convert 22 9 (.slice A8 nb d8)) w8 = .ok (.string (str ks)) w8 := run_str under22 under5 under9 hp.out.1 nb HNb.out
                have r2 : Sem.run Try.prog (convert 22 9 (.slice B nb cb)) w8 = .ok (.string (str ks)) w8 := run_str under22 under5 under9 (by first | exact HRow.out w8 HK8.out | exact HIx.out.row.keep HK8.out (fun _ _ _ => id)) nb HNb.out
                clear hp
                go_wp2_with fail
                go_roundg (L - (j + 1))
                case measure => rw [HMs.out]; omega
                case rel => exact ⟨j + 1, B, nb, cb, ks, kk, P4, hlt, rfl, by go_num, by rw [HBb.out], rfl, HNb.out, ⟨HC8.out, HKp4.out, HH.out.2.2.1, HH.out.2.2.2.1, HH.out.2.2.2.2.1, HK8.out⟩, HRow.out⟩
              | false =>
                have hnil : ks = [] := HH.out.2.2.2.2.1 (by have h5 := of_decide_eq_false HBb.out; have h6 := HH.out.2.2.1; omega)
                have hnb0 : nb = 0 := by rw [HNb.out, hnil]; rfl
                have HNil := Lib.hid hnil
                subst hnb0
                clear hnil
                go_wp2_with fail
                refine (Power_any (HC4q.out _)).mono ?_
                rintro e w7 ⟨rfl, hc, hk⟩
                have HC7 : Hid (IsCh w7 g ⟨pg, 20, P4, -1, false⟩) := Lib.hid hc
                have HK7 := Lib.hid ((HK4q.out _).trans hk (fun i hi => .inr (by have := HG.out; unfold Own.One at hi; omega)))
                clear hc hk
                go_wp2_with fail
                refine (Load_h HC7.out ks (kk) HKp4.out 0 HNb.out false HBb.out).mono ?_
                rintro e w8 ⟨A8, d8, rfl, hp⟩
                have HK8 := Lib.hid (HK7.out.trans hp.out.2 (fun i hi => hi.elim))
                have HC8 := Lib.hid (HC7.out.keep hp.out.2 id id)
                have r1 : Sem.run Try.prog (convert 22 9 (.slice A8 0 d8)) w8 = .ok (.string (str ks)) w8 := run_str under22 under5 under9 hp.out.1 0 HNb.out
                have r2 : Sem.run Try.prog (convert 22 9 (.slice B 0 cb)) w8 = .ok (.string (str ks)) w8 := run_str under22 under5 under9 (by first | exact HRow.out w8 HK8.out | exact HIx.out.row.keep HK8.out (fun _ _ _ => id)) 0 HNb.out
                clear hp
                go_wp2_with fail
                go_roundg (L - (j + 1))
                case measure => rw [HMs.out]; omega
                case rel => exact ⟨j + 1, B, 0, cb, ks, kk, P4, hlt, rfl, by go_num, by rw [HBb.out], rfl, HNb.out, ⟨HC8.out, HKp4.out, HH.out.2.2.1, HH.out.2.2.2.1, HH.out.2.2.2.2.1, HK8.out⟩, HRow.out⟩
          · have HF : Hid (¬ fits ⟨pg, 20, Q, q, false⟩ x) := Lib.hid hf
            have hfl : decide ((n : Int) ≤ 72) = false := by
              have := HN.out
              simp
              omega
            clear hf
            refine (Save_long_h HC3.out A3 d3 x HS3.out HIx.out.byte HIx.out.big HF.out n HN.out).mono ?_
            rintro e w4 ⟨rfl, hp⟩
            have HC4 : Hid (IsCh w4 g ⟨pg, 20, Q, q, false⟩) := Lib.hid hp.out.1
            have HKp4 : Hid (Kept ⟨pg, 20, Q, -1, false⟩ ks kk) := Lib.hid HH.out.2.1
            have HK4 : Hid (Keep Zero w w4) := Lib.hid (HK3.out.trans hp.out.2 (far_chip HG.out.1 HG.out.2))
            have gb4 : w4.cell? ⟨b, o + j, none⟩ = some (.slice Ax n cx) := (HK4.out.cell (p := ⟨b, o + j, none⟩) HGb.out.1 id).trans HGb.out.2
            clear hp
            go_wp2_with fail
            go_quiet ((first | (go_at_call 11; exact quiet_eq (Room_is HC4.out rfl)) | (go_at_call 14; exact quiet_eq (Dead_is HC4.out rfl))))
            clear gb4
            have HC4q := Lib.hid (fun m => HC4.out.keep (S := Own.Zero) ((Keep.refl _ _).drewN m) id id)
            have HK4q := Lib.hid (fun m => HK4.out.drewN m)
            cases bb with
            | true =>
              go_wp2_with fail
              refine (Power_any (HC4q.out _)).mono ?_
              rintro e w7 ⟨rfl, hc, hk⟩
              have HC7 : Hid (IsCh w7 g ⟨pg, 20, Q, -1, false⟩) := Lib.hid hc
              have HK7 := Lib.hid ((HK4q.out _).trans hk (fun i hi => .inr (by have := HG.out; unfold Own.One at hi; omega)))
              clear hc hk
              go_wp2_with fail
              refine (Load_h HC7.out ks (kk) HKp4.out nb HNb.out true HBb.out).mono ?_
              rintro e w8 ⟨A8, d8, rfl, hp⟩
              have HK8 := Lib.hid (HK7.out.trans hp.out.2 (fun i hi => hi.elim))
              have HC8 := Lib.hid (HC7.out.keep hp.out.2 id id)
              have r1 : Sem.run Try.prog (convert 22 9 (.slice A8 nb d8)) w8 = .ok (.string (str ks)) w8 := run_str under22 under5 under9 hp.out.1 nb HNb.out
              have r2 : Sem.run Try.prog (convert 22 9 (.slice B nb cb)) w8 = .ok (.string (str ks)) w8 := run_str under22 under5 under9 (by first | exact HRow.out w8 HK8.out | exact HIx.out.row.keep HK8.out (fun _ _ _ => id)) nb HNb.out
              clear hp
              go_wp2_with fail
              go_roundg (L - (j + 1))
              case measure => rw [HMs.out]; omega
              case rel => exact ⟨j + 1, B, nb, cb, ks, kk, Q, hlt, rfl, by go_num, by rw [HBb.out], rfl, HNb.out, ⟨HC8.out, HKp4.out, HH.out.2.2.1, HH.out.2.2.2.1, HH.out.2.2.2.2.1, HK8.out⟩, HRow.out⟩
            | false =>
              have hnil : ks = [] := HH.out.2.2.2.2.1 (by have h5 := of_decide_eq_false HBb.out; have h6 := HH.out.2.2.1; omega)
              have hnb0 : nb = 0 := by rw [HNb.out, hnil]; rfl
              have HNil := Lib.hid hnil
              subst hnb0
              clear hnil
              go_wp2_with fail
              refine (Power_any (HC4q.out _)).mono ?_
              rintro e w7 ⟨rfl, hc, hk⟩
              have HC7 : Hid (IsCh w7 g ⟨pg, 20, Q, -1, false⟩) := Lib.hid hc
              have HK7 := Lib.hid ((HK4q.out _).trans hk (fun i hi => .inr (by have := HG.out; unfold Own.One at hi; omega)))
              clear hc hk
              go_wp2_with fail
              refine (Load_h HC7.out ks (kk) HKp4.out 0 HNb.out false HBb.out).mono ?_
              rintro e w8 ⟨A8, d8, rfl, hp⟩
              have HK8 := Lib.hid (HK7.out.trans hp.out.2 (fun i hi => hi.elim))
              have HC8 := Lib.hid (HC7.out.keep hp.out.2 id id)
              have r1 : Sem.run Try.prog (convert 22 9 (.slice A8 0 d8)) w8 = .ok (.string (str ks)) w8 := run_str under22 under5 under9 hp.out.1 0 HNb.out
              have r2 : Sem.run Try.prog (convert 22 9 (.slice B 0 cb)) w8 = .ok (.string (str ks)) w8 := run_str under22 under5 under9 (by first | exact HRow.out w8 HK8.out | exact HIx.out.row.keep HK8.out (fun _ _ _ => id)) 0 HNb.out
              clear hp
              go_wp2_with fail
              go_roundg (L - (j + 1))
              case measure => rw [HMs.out]; omega
              case rel => exact ⟨j + 1, B, 0, cb, ks, kk, Q, hlt, rfl, by go_num, by rw [HBb.out], rfl, HNb.out, ⟨HC8.out, HKp4.out, HH.out.2.2.1, HH.out.2.2.2.1, HH.out.2.2.2.2.1, HK8.out⟩, HRow.out⟩
        · have hq13 : decide (q < 12) = false := by simp; omega
          have HR2 : Hid (Row (w2.alloc (.cells #[] 5)) Ax (ints .u8 x)) := Lib.hid (HIx.out.row.keep (HKr.out.alloc (.cells #[] 5)) (fun _ _ _ => id))
          have gb2 : (w2.alloc (.cells #[] 5)).cell? ⟨b, o + j, none⟩ = some (.slice Ax n cx) := ((HKr.out.alloc (.cells #[] 5)).cell (p := ⟨b, o + j, none⟩) HGb.out.1 id).trans HGb.out.2
          go_wp2_with (at_builtin; refine app_own rfl (.tmp 53) (.tmp 57) 22 rfl w2.heap.size 5 (.int .u8 0) 1 1 under22 info5 rfl (by decide) (.slice (some ⟨w2.heap.size, 0, none⟩) 0 0) 0 [] rfl (own_empty 1 (Blk.new w2 _ _)) Ax n cx (ints .u8 x) rfl (by rw [ints_length, HN.out]; omega) HIx.out.nil HR2.out (ints_one _ _) (by unfold maxLen; omega) (by omega) (by simp) ?_; intro v3 w3 hown3 hgr3)
          obtain ⟨hc3, hk3, A3, d3, rfl, hs3⟩ := copied HCr.out HN.out hown3 hgr3
          have HC3 : Hid (IsCh w3 g ⟨pg, 20, Q, -1, false⟩) := Lib.hid hc3
          have HK3 := Lib.hid (HKr.out.trans hk3 (fun i hi => hi.elim))
          have HS3 := Lib.hid hs3
          clear hown3 hgr3 hc3 hk3 hs3 gb2
          go_wp2_with fail
          by_cases hf : (x.length : Int) ≤ 8 * (((20 : Nat) : Int) / 2 - 1)
          · have HF := Lib.hid hf
            have hfl : (n : Int) ≤ 72 := by have := HN.out; omega
            clear hf
            refine (Save_u HC3.out rfl A3 d3 x HS3.out HIx.out.byte HF.out ks kk HH.out.2.1 n HN.out).mono ?_
            rintro e w4 (⟨P4, left4, rfl, hp⟩ | ⟨P4, rfl, hp⟩)
            · have HC4 : Hid (IsCh w4 g ⟨pg, 20, P4, left4, false⟩) := Lib.hid hp.out.1
              have HKp4 : Hid (Kept ⟨pg, 20, P4, -1, false⟩ x (nxt kk)) := Lib.hid hp.out.2.1
              have HK4 : Hid (Keep Zero w w4) := Lib.hid (HK3.out.trans hp.out.2.2 (far_chip HG.out.1 HG.out.2))
              have HNq := Lib.hid (nxt_range HH.out.2.2.1 HH.out.2.2.2.1)
              have HBn : Hid (decide (0 < nxt kk) = true) := Lib.hid (decide_eq_true (by have := HNq.out; omega))
              have gb4 : w4.cell? ⟨b, o + j, none⟩ = some (.slice Ax n cx) := (HK4.out.cell (p := ⟨b, o + j, none⟩) HGb.out.1 id).trans HGb.out.2
              clear hp
              go_wp2_with fail
              refine (Power_any HC4.out).mono ?_
              rintro e w7 ⟨rfl, hc, hk⟩
              have HC7 : Hid (IsCh w7 g ⟨pg, 20, P4, -1, false⟩) := Lib.hid hc
              have HK7 := Lib.hid (HK4.out.trans hk (fun i hi => .inr (by have := HG.out; unfold Own.One at hi; omega)))
              clear hc hk
              go_wp2_with fail
              refine (Load_h HC7.out x (nxt kk) HKp4.out n HN.out true HBn.out).mono ?_
              rintro e w8 ⟨A8, d8, rfl, hp⟩
              have HK8 := Lib.hid (HK7.out.trans hp.out.2 (fun i hi => hi.elim))
              have HC8 := Lib.hid (HC7.out.keep hp.out.2 id id)
              have r1 : Sem.run Try.prog (convert 22 9 (.slice A8 n d8)) w8 = .ok (.string (str x)) w8 := run_str under22 under5 under9 hp.out.1 n HN.out
              have r2 : Sem.run Try.prog (convert 22 9 (.slice Ax n cx)) w8 = .ok (.string (str x)) w8 := run_str under22 under5 under9 (by first | exact HRow.out w8 HK8.out | exact HIx.out.row.keep HK8.out (fun _ _ _ => id)) n HN.out
              clear hp
              go_wp2_with fail
              go_roundg (L - (j + 1))
              case measure => rw [HMs.out]; omega
              case rel => exact ⟨j + 1, Ax, n, cx, x, nxt kk, P4, hlt, rfl, by go_num, by rw [HBn.out], rfl, HN.out, ⟨HC8.out, HKp4.out, by have := HNq.out; omega, HNq.out.2, (fun h => by have := HNq.out; omega), HK8.out⟩, fun w' hk' => HIx.out.row.keep hk' (fun _ _ _ => id)⟩
            · have HC4 : Hid (IsCh w4 g ⟨pg, 20, P4, -1, true⟩) := Lib.hid hp.out.1
              have HKp4 : Hid (Kept ⟨pg, 20, P4, -1, false⟩ ks kk) := Lib.hid hp.out.2.1
              have HK4 : Hid (Keep Zero w w4) := Lib.hid (HK3.out.trans hp.out.2.2 (far_chip HG.out.1 HG.out.2))
              have gb4 : w4.cell? ⟨b, o + j, none⟩ = some (.slice Ax n cx) := (HK4.out.cell (p := ⟨b, o + j, none⟩) HGb.out.1 id).trans HGb.out.2
              clear hp
              go_wp2_with fail
              go_quiet ((first | (go_at_call 11; exact quiet_eq (Room_is HC4.out rfl)) | (go_at_call 14; exact quiet_eq (Dead_is HC4.out rfl))))
              clear gb4
              have HC4q := Lib.hid (fun m => HC4.out.keep (S := Own.Zero) ((Keep.refl _ _).drewN m) id id)
              have HK4q := Lib.hid (fun m => HK4.out.drewN m)
              cases bb with
              | true =>
                go_wp2_with fail
                refine (Power_any (HC4q.out _)).mono ?_
                rintro e w7 ⟨rfl, hc, hk⟩
                have HC7 : Hid (IsCh w7 g ⟨pg, 20, P4, -1, false⟩) := Lib.hid hc
                have HK7 := Lib.hid ((HK4q.out _).trans hk (fun i hi => .inr (by have := HG.out; unfold Own.One at hi; omega)))
                clear hc hk
                go_wp2_with fail
                refine (Load_h HC7.out ks (kk) HKp4.out nb HNb.out true HBb.out).mono ?_
                rintro e w8 ⟨A8, d8, rfl, hp⟩
                have HK8 := Lib.hid (HK7.out.trans hp.out.2 (fun i hi => hi.elim))
                have HC8 := Lib.hid (HC7.out.keep hp.out.2 id id)
                have r1 : Sem.run Try.prog (convert 22 9 (.slice A8 nb d8)) w8 = .ok (.string (str ks)) w8 := run_str under22 under5 under9 hp.out.1 nb HNb.out
                have r2 : Sem.run Try.prog (convert 22 9 (.slice B nb cb)) w8 = .ok (.string (str ks)) w8 := run_str under22 under5 under9 (by first | exact HRow.out w8 HK8.out | exact HIx.out.row.keep HK8.out (fun _ _ _ => id)) nb HNb.out
                clear hp
                go_wp2_with fail
                go_roundg (L - (j + 1))
                case measure => rw [HMs.out]; omega
                case rel => exact ⟨j + 1, B, nb, cb, ks, kk, P4, hlt, rfl, by go_num, by rw [HBb.out], rfl, HNb.out, ⟨HC8.out, HKp4.out, HH.out.2.2.1, HH.out.2.2.2.1, HH.out.2.2.2.2.1, HK8.out⟩, HRow.out⟩
              | false =>
                have hnil : ks = [] := HH.out.2.2.2.2.1 (by have h5 := of_decide_eq_false HBb.out; have h6 := HH.out.2.2.1; omega)
                have hnb0 : nb = 0 := by rw [HNb.out, hnil]; rfl
                have HNil := Lib.hid hnil
                subst hnb0
                clear hnil
                go_wp2_with fail
                refine (Power_any (HC4q.out _)).mono ?_
                rintro e w7 ⟨rfl, hc, hk⟩
                have HC7 : Hid (IsCh w7 g ⟨pg, 20, P4, -1, false⟩) := Lib.hid hc
                have HK7 := Lib.hid ((HK4q.out _).trans hk (fun i hi => .inr (by have := HG.out; unfold Own.One at hi; omega)))
                clear hc hk
                go_wp2_with fail
                refine (Load_h HC7.out ks (kk) HKp4.out 0 HNb.out false HBb.out).mono ?_
                rintro e w8 ⟨A8, d8, rfl, hp⟩
                have HK8 := Lib.hid (HK7.out.trans hp.out.2 (fun i hi => hi.elim))
                have HC8 := Lib.hid (HC7.out.keep hp.out.2 id id)
                have r1 : Sem.run Try.prog (convert 22 9 (.slice A8 0 d8)) w8 = .ok (.string (str ks)) w8 := run_str under22 under5 under9 hp.out.1 0 HNb.out
                have r2 : Sem.run Try.prog (convert 22 9 (.slice B 0 cb)) w8 = .ok (.string (str ks)) w8 := run_str under22 under5 under9 (by first | exact HRow.out w8 HK8.out | exact HIx.out.row.keep HK8.out (fun _ _ _ => id)) 0 HNb.out
                clear hp
                go_wp2_with fail
                go_roundg (L - (j + 1))
                case measure => rw [HMs.out]; omega
                case rel => exact ⟨j + 1, B, 0, cb, ks, kk, P4, hlt, rfl, by go_num, by rw [HBb.out], rfl, HNb.out, ⟨HC8.out, HKp4.out, HH.out.2.2.1, HH.out.2.2.2.1, HH.out.2.2.2.2.1, HK8.out⟩, HRow.out⟩
          · have HF : Hid (¬ fits ⟨pg, 20, Q, -1, false⟩ x) := Lib.hid hf
            have hfl : decide ((n : Int) ≤ 72) = false := by
              have := HN.out
              simp
              omega
            clear hf
            refine (Save_long_h HC3.out A3 d3 x HS3.out HIx.out.byte HIx.out.big HF.out n HN.out).mono ?_
            rintro e w4 ⟨rfl, hp⟩
            have HC4 : Hid (IsCh w4 g ⟨pg, 20, Q, -1, false⟩) := Lib.hid hp.out.1
            have HKp4 : Hid (Kept ⟨pg, 20, Q, -1, false⟩ ks kk) := Lib.hid HH.out.2.1
            have HK4 : Hid (Keep Zero w w4) := Lib.hid (HK3.out.trans hp.out.2 (far_chip HG.out.1 HG.out.2))
            have gb4 : w4.cell? ⟨b, o + j, none⟩ = some (.slice Ax n cx) := (HK4.out.cell (p := ⟨b, o + j, none⟩) HGb.out.1 id).trans HGb.out.2
            clear hp
            go_wp2_with fail
            go_quiet ((first | (go_at_call 11; exact quiet_eq (Room_is HC4.out rfl)) | (go_at_call 14; exact quiet_eq (Dead_is HC4.out rfl))))
            clear gb4
            have HC4q := Lib.hid (fun m => HC4.out.keep (S := Own.Zero) ((Keep.refl _ _).drewN m) id id)
            have HK4q := Lib.hid (fun m => HK4.out.drewN m)
            cases bb with
            | true =>
              go_wp2_with fail
              refine (Power_any (HC4q.out _)).mono ?_
              rintro e w7 ⟨rfl, hc, hk⟩
              have HC7 : Hid (IsCh w7 g ⟨pg, 20, Q, -1, false⟩) := Lib.hid hc
              have HK7 := Lib.hid ((HK4q.out _).trans hk (fun i hi => .inr (by have := HG.out; unfold Own.One at hi; omega)))
              clear hc hk
              go_wp2_with fail
              refine (Load_h HC7.out ks (kk) HKp4.out nb HNb.out true HBb.out).mono ?_
              rintro e w8 ⟨A8, d8, rfl, hp⟩
              have HK8 := Lib.hid (HK7.out.trans hp.out.2 (fun i hi => hi.elim))
              have HC8 := Lib.hid (HC7.out.keep hp.out.2 id id)
              have r1 : Sem.run Try.prog (convert 22 9 (.slice A8 nb d8)) w8 = .ok (.string (str ks)) w8 := run_str under22 under5 under9 hp.out.1 nb HNb.out
              have r2 : Sem.run Try.prog (convert 22 9 (.slice B nb cb)) w8 = .ok (.string (str ks)) w8 := run_str under22 under5 under9 (by first | exact HRow.out w8 HK8.out | exact HIx.out.row.keep HK8.out (fun _ _ _ => id)) nb HNb.out
              clear hp
              go_wp2_with fail
              go_roundg (L - (j + 1))
              case measure => rw [HMs.out]; omega
              case rel => exact ⟨j + 1, B, nb, cb, ks, kk, Q, hlt, rfl, by go_num, by rw [HBb.out], rfl, HNb.out, ⟨HC8.out, HKp4.out, HH.out.2.2.1, HH.out.2.2.2.1, HH.out.2.2.2.2.1, HK8.out⟩, HRow.out⟩
            | false =>
              have hnil : ks = [] := HH.out.2.2.2.2.1 (by have h5 := of_decide_eq_false HBb.out; have h6 := HH.out.2.2.1; omega)
              have hnb0 : nb = 0 := by rw [HNb.out, hnil]; rfl
              have HNil := Lib.hid hnil
              subst hnb0
              clear hnil
              go_wp2_with fail
              refine (Power_any (HC4q.out _)).mono ?_
              rintro e w7 ⟨rfl, hc, hk⟩
              have HC7 : Hid (IsCh w7 g ⟨pg, 20, Q, -1, false⟩) := Lib.hid hc
              have HK7 := Lib.hid ((HK4q.out _).trans hk (fun i hi => .inr (by have := HG.out; unfold Own.One at hi; omega)))
              clear hc hk
              go_wp2_with fail
              refine (Load_h HC7.out ks (kk) HKp4.out 0 HNb.out false HBb.out).mono ?_
              rintro e w8 ⟨A8, d8, rfl, hp⟩
              have HK8 := Lib.hid (HK7.out.trans hp.out.2 (fun i hi => hi.elim))
              have HC8 := Lib.hid (HC7.out.keep hp.out.2 id id)
              have r1 : Sem.run Try.prog (convert 22 9 (.slice A8 0 d8)) w8 = .ok (.string (str ks)) w8 := run_str under22 under5 under9 hp.out.1 0 HNb.out
              have r2 : Sem.run Try.prog (convert 22 9 (.slice B 0 cb)) w8 = .ok (.string (str ks)) w8 := run_str under22 under5 under9 (by first | exact HRow.out w8 HK8.out | exact HIx.out.row.keep HK8.out (fun _ _ _ => id)) 0 HNb.out
              clear hp
              go_wp2_with fail
              go_roundg (L - (j + 1))
              case measure => rw [HMs.out]; omega
              case rel => exact ⟨j + 1, B, 0, cb, ks, kk, Q, hlt, rfl, by go_num, by rw [HBb.out], rfl, HNb.out, ⟨HC8.out, HKp4.out, HH.out.2.2.1, HH.out.2.2.2.1, HH.out.2.2.2.2.1, HK8.out⟩, HRow.out⟩
    · go_wp2_with ((with_reducible refine (lives_any _).mono ?_); rintro e w' ⟨rfl, hk⟩)
      go_ret
      rename_i hk
      exact ⟨rfl, HH.out.2.2.2.2.2.trans hk.out (fun i hi => hi.elim)⟩
end Go.Proofs.Ytgegpeicpbhnkaa.Nvm
