/- The program's Erase, of any chip; Read, Pages. -/
import Derived.Test.YtgegpeicpbhnkaaNvmN
import Derived.Test.YtgegpeicpbhnkaaNvmI
import Derived.Laws.ResultCell
namespace Go.Proofs.Ytgegpeicpbhnkaa.Nvm
open Go.RowKit Go.Proofs.Ytgegpeicpbhnkaa.Own Go.Proofs.Ytgegpeicpbhnkaa.Crc
def EraPost (w : World) (g : Nat) (c : Ch) (e : Ending) (w' : World) : Prop := e = .returned (.int .i64 (if c.erase.1 then 0 else 6)) ∧ Hid (IsCh w' g c.erase.2 ∧ Keep (Chp g c.pg) w w')
theorem zeros_ok : ∀ i : Nat, (0 : Int) ≤ (fun _ : Nat => (0 : Int)) i ∧ (fun _ : Nat => (0 : Int)) i ≤ 255 := fun _ => ⟨Int.le_refl _, by simp⟩
set_option maxHeartbeats 4000000 in
theorem Erase_any {w : World} {g : Nat} {c : Ch} (h : IsCh w g c) : Calls Try.prog 16 #[.pointer (some ⟨g, 0, none⟩)] w (EraPost w g c) := by
  have n0 := h.n0
  have H := Lib.hid h
  obtain ⟨m, hm⟩ : ∃ m, m = c.n / 2 := ⟨_, rfl⟩
  have hm1 : 1 ≤ m := by omega
  have HM := Lib.hid hm
  have i0 : ∀ w, (Instr.index 56 (.agg #[.pointer (some ⟨g, 0, none⟩), .int .i64 0, .int .i64 (m : Int), .pointer (some ⟨g, 0, none⟩), .int .i64 (m : Int), .int .i64 (m : Int)]) (.int .i64 0)).run Try.prog w = .ok (.agg #[.pointer (some ⟨g, 0, none⟩), .int .i64 0, .int .i64 (m : Int)]) w := fun w => rfl
  have i1 : ∀ w, (Instr.index 56 (.agg #[.pointer (some ⟨g, 0, none⟩), .int .i64 0, .int .i64 (m : Int), .pointer (some ⟨g, 0, none⟩), .int .i64 (m : Int), .int .i64 (m : Int)]) (.int .i64 1)).run Try.prog w = .ok (.agg #[.pointer (some ⟨g, 0, none⟩), .int .i64 (m : Int), .int .i64 (m : Int)]) w := fun w => rfl
  obtain ⟨b1, c1, hw1⟩ : ∃ b1 c1, c.write 0 (fun _ => 0) = (b1, c1) := ⟨_, _, rfl⟩
  have HW1 := Lib.hid hw1
  have hp1 := write_pn c 0 (fun _ => 0)
  rw [hw1] at hp1
  have HP1 : Hid (c1.pg = c.pg ∧ c1.n = c.n) := Lib.hid hp1
  obtain ⟨b2, c2, hw2⟩ : ∃ b2 c2, c1.write (m : Int) (fun _ => 0) = (b2, c2) := ⟨_, _, rfl⟩
  have HW2 := Lib.hid hw2
  have HE : Hid (c.erase = if b1 then (b2, c2) else (false, c1)) := Lib.hid (by unfold Ch.erase; rw [hw1, ← hm]; simp only; rw [hw2])
  clear h hm hw1 hp1 hw2
  go_enter Try.func16, Try.ntmps16
  go_wp2_with fail
  refine (halves_h H.out m HM.out).mono ?_
  rintro e w1 ⟨rfl, hk1⟩
  have H1 := Lib.hid (H.out.keep hk1.out id id)
  have HK1 : Hid (Keep (Chp g c.pg) w w1) := Lib.hid (hk1.out.mono (fun i hi => hi.elim))
  clear hk1
  go_wp2_with fail
  go_loopg [9] 2 (fun k s9 wr => (k = 2 ∧ s9 = .int .i64 0 ∧ wr = w1) ∨ (k = 1 ∧ s9 = .int .i64 1 ∧ Hid (b1 = true ∧ IsCh wr g c1 ∧ Keep (Chp g c.pg) w wr)) ∨ (k = 0 ∧ s9 = .int .i64 2 ∧ Hid (b1 = true ∧ b2 = true ∧ IsCh wr g c2 ∧ Keep (Chp g c.pg) w wr)))
  case atStart => exact .inl ⟨rfl, rfl, rfl⟩
  case round =>
    rcases hrel with ⟨rfl, rfl, rfl⟩ | ⟨rfl, rfl, HC⟩ | ⟨rfl, rfl, HC⟩
    · have HCa : Hid (IsCh (wr.alloc (.cells #[.pointer (some ⟨g, 0, none⟩), .int .i64 0, .int .i64 (m : Int)] 55)) g c) := Lib.hid (H1.out.keep ((Keep.refl Own.Zero wr).alloc _) id id)
      have HKa := Lib.hid (HK1.out.alloc (.cells #[.pointer (some ⟨g, 0, none⟩), .int .i64 0, .int .i64 (m : Int)] 55))
      go_wp2_with fail
      refine (Write_h HCa.out 0 (fun _ => 0) zeros_ok c.pg rfl b1 c1 HW1.out).mono ?_
      rintro e w2 ⟨rfl, HP⟩
      have HK2 : Hid (Keep (Chp g c.pg) w w2) := Lib.hid (HKa.out.trans HP.out.2 (fun i hi => .inl hi))
      cases b1 with
      | true =>
        go_wp2_with fail
        go_roundg 1
        case measure => omega
        case rel => exact .inr (.inl ⟨rfl, rfl, trivial, HP.out.1, HK2.out⟩)
      | false =>
        go_wp2_with fail
        go_ret
        unfold EraPost
        rw [HE.out]
        exact ⟨rfl, Lib.hid ⟨HP.out.1, HK2.out⟩⟩
    · have HCa : Hid (IsCh (wr.alloc (.cells #[.pointer (some ⟨g, 0, none⟩), .int .i64 (m : Int), .int .i64 (m : Int)] 55)) g c1) := Lib.hid (HC.out.2.1.keep ((Keep.refl Own.Zero wr).alloc _) id id)
      have HKa := Lib.hid (HC.out.2.2.alloc (.cells #[.pointer (some ⟨g, 0, none⟩), .int .i64 (m : Int), .int .i64 (m : Int)] 55))
      go_wp2_with fail
      refine (Write_h HCa.out (m : Int) (fun _ => 0) zeros_ok c.pg HP1.out.1 b2 c2 HW2.out).mono ?_
      rintro e w2 ⟨rfl, HP⟩
      have HK2 : Hid (Keep (Chp g c.pg) w w2) := Lib.hid (HKa.out.trans HP.out.2 (fun i hi => .inl hi))
      have hb := HC.out.1
      cases b2 with
      | true =>
        clear hb
        go_wp2_with fail
        go_roundg 0
        case measure => omega
        case rel => exact .inr (.inr ⟨rfl, rfl, HC.out.1, trivial, HP.out.1, HK2.out⟩)
      | false =>
        have HE2 : Hid (c.erase = (false, c2)) := Lib.hid (by rw [HE.out, hb]; rfl)
        clear hb
        go_wp2_with fail
        go_ret
        unfold EraPost
        rw [HE2.out]
        exact ⟨rfl, Lib.hid ⟨HP.out.1, HK2.out⟩⟩
    · have HE2 : Hid (c.erase = (true, c2)) := Lib.hid (by rw [HE.out, HC.out.1, HC.out.2.1]; rfl)
      go_wp2_with fail
      go_ret
      unfold EraPost
      rw [HE2.out]
      exact ⟨rfl, Lib.hid ⟨HC.out.2.2.1, HC.out.2.2.2⟩⟩
theorem Pages_any {w : World} {g : Nat} {c : Ch} (h : IsCh w g c) : Calls Try.prog 30 #[.pointer (some ⟨g, 0, none⟩)] w fun e w' => e = .returned (.int .i64 c.n) ∧ w = w' := by
  have c0 : w.cell? ⟨g, 0, none⟩ = some (.slice (some ⟨c.pg, 0, none⟩) c.n c.n) := h.chip.cell 0
  clear h
  go_enter Try.func30, Try.ntmps30
  go_wp2
  go_ret
  exact ⟨rfl, rfl⟩
theorem size44 : (Try.prog.info? 44).map (·.size) = some 8 := by kernel_rfl
theorem results_page {fn : Func} {p : Tmp} (h : fn.results = #[.cell p 44]) (tmps : Array Value) (w : World) (b : Nat) (x0 x1 x2 x3 x4 x5 x6 x7 : Int) (hp : tmps.getD p undef = .pointer (some ⟨b, 0, none⟩))
    (hb : Blk w b #[.int .u8 x0, .int .u8 x1, .int .u8 x2, .int .u8 x3, .int .u8 x4, .int .u8 x5, .int .u8 x6, .int .u8 x7] 44) (v : Value) (hv : v = .agg #[.int .u8 x0, .int .u8 x1, .int .u8 x2, .int .u8 x3, .int .u8 x4, .int .u8 x5, .int .u8 x6, .int .u8 x7]) :
    (results fn tmps).run Try.prog w = .ok v w := by
  subst hv
  exact results_cell_row h tmps w b 44 _ (0, 0) _ hp hb under44 rfl size44
/-- What is read at a page; outside: zeros. -/
def readF (c : Ch) (k : Int) : Nat → Int := fun r => if 0 ≤ k ∧ k < c.n then c.P (k.toNat * 8 + r) else 0
set_option maxHeartbeats 2000000 in
theorem Read_any {w : World} {g : Nat} {c : Ch} (h : IsCh w g c) (k : Int) : Calls Try.prog 31 #[.pointer (some ⟨g, 0, none⟩), .int .i64 k] w fun e w' => e = .returned (pageV (readF c k)) ∧ Hid (Keep Zero w w') := by
  have n1 := h.n1
  have glt := h.chip.lt
  have plt := h.pages.lt
  have H := Lib.hid h
  have k0 : ∀ o, (w.alloc o).cell? ⟨g, 0, none⟩ = some (.slice (some ⟨c.pg, 0, none⟩) c.n c.n) := fun o => (h.chip.alloc o).cell 0
  have hal : ∀ o, Blk (w.alloc o) g c.cells 51 := fun o => h.chip.alloc o
  have HAl := Lib.hid hal
  obtain ⟨n, hn⟩ : ∃ n, n = c.n := ⟨_, rfl⟩
  obtain ⟨pg, hpg⟩ : ∃ pg, pg = c.pg := ⟨_, rfl⟩
  rw [← hn, ← hpg] at k0
  rw [← hn] at n1
  rw [← hpg] at plt
  have HN := Lib.hid hn
  have HPg := Lib.hid hpg
  by_cases hk : 0 ≤ k ∧ k < c.n
  · obtain ⟨q, rfl⟩ : ∃ q : Nat, k = q := ⟨k.toNat, by omega⟩
    have hqn : q < n := by omega
    have hqi : (q : Int) < (n : Int) := by omega
    have hq0 : (0 : Int) ≤ (q : Int) := by omega
    have hp : ∀ r, r < 8 → ∀ o, (w.alloc o).cell? ⟨pg, q * 8 + r, none⟩ = some (.int .u8 (c.P (q * 8 + r))) := fun r hr o => by
      rw [hpg]
      exact (h.pages.keep ((Keep.refl Own.Zero w).alloc o) id).cell _ (by omega)
    have p0 := hp 0 (by omega)
    have p1 := hp 1 (by omega)
    have p2 := hp 2 (by omega)
    have p3 := hp 3 (by omega)
    have p4 := hp 4 (by omega)
    have p5 := hp 5 (by omega)
    have p6 := hp 6 (by omega)
    have p7 := hp 7 (by omega)
    have HR : Hid (∀ r, readF c q r = c.P (q * 8 + r)) := Lib.hid (fun r => by unfold readF; rw [if_pos hk, Int.toNat_natCast])
    have HB : Hid (true = decide (0 ≤ (q : Int) ∧ (q : Int) < c.n)) := Lib.hid (decide_eq_true hk).symm
    clear hk hp h hn hpg hal
    simp only [Nat.add_zero] at p0
    go_enter Try.func31, Try.ntmps31
    go_wp2_with ((with_reducible refine (is_any (HAl.out _) (q : Int) true HB.out).mono ?_); rintro e w' ⟨rfl, rfl⟩)
    refine bodyPost_ret (v := pageV (readF c q)) (results_page (p := 4) rfl _ _ w.heap.size (c.P (q * 8)) (c.P (q * 8 + 1)) (c.P (q * 8 + 2)) (c.P (q * 8 + 3)) (c.P (q * 8 + 4)) (c.P (q * 8 + 5)) (c.P (q * 8 + 6)) (c.P (q * 8 + 7)) rfl (by
      apply Blk.cast
      · repeat (first | exact Blk.new _ _ _ | (with_reducible apply Blk.set))
      · simp) _ (by unfold pageV; simp only [HR.out]; try rfl)) rfl ?_
    exact ⟨rfl, Lib.hid (by repeat (first | exact Keep.refl _ _ | apply Keep.alloc | apply Keep.set _ (.inr (by simp)) | apply Keep.drewN))⟩
  · have HR : Hid (∀ r, readF c k r = 0) := Lib.hid (fun r => by unfold readF; rw [if_neg hk])
    have HB : Hid (false = decide (0 ≤ k ∧ k < c.n)) := Lib.hid (decide_eq_false hk).symm
    clear hk h hn hpg hal
    go_enter Try.func31, Try.ntmps31
    go_wp2_with ((with_reducible refine (is_any (HAl.out _) k false HB.out).mono ?_); rintro e w' ⟨rfl, rfl⟩)
    refine bodyPost_ret (v := pageV (readF c k)) (results_page (p := 4) rfl _ _ w.heap.size 0 0 0 0 0 0 0 0 rfl (by
      apply Blk.cast
      · repeat (first | exact Blk.new _ _ _ | (with_reducible apply Blk.set))
      · simp) _ (by unfold pageV; simp only [HR.out]; try rfl)) rfl ?_
    exact ⟨rfl, Lib.hid (by repeat (first | exact Keep.refl _ _ | apply Keep.alloc | apply Keep.set _ (.inr (by simp)) | apply Keep.drewN))⟩
end Go.Proofs.Ytgegpeicpbhnkaa.Nvm
