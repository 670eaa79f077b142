/- The document's Erase. -/
import Derived.Test.YtgegpeicpbhnkaaNvmL
namespace Go.Proofs.Ytgegpeicpbhnkaa.Nvm
open Go.RowKit Go.Proofs.Ytgegpeicpbhnkaa.Own Go.Proofs.Ytgegpeicpbhnkaa.Crc
def Ch.erase (c : Ch) : Bool × Ch := if (c.write 0 (fun _ => 0)).1 then (c.write 0 (fun _ => 0)).2.write ((c.n / 2 : Nat) : Int) (fun _ => 0) else (false, (c.write 0 (fun _ => 0)).2)
def DEraPost (w : World) (g : Nat) (c : Ch) (e : Ending) (w' : World) : Prop := e = .returned (.int .i64 (if c.erase.1 then 0 else 6)) ∧ Hid (IsDc w' g c.erase.2 ∧ Keep (Chp g c.pg) w w')
theorem write_pn (c : Ch) (k : Int) (b : Nat → Int) : (c.write k b).2.pg = c.pg ∧ (c.write k b).2.n = c.n := by
  unfold Ch.write
  split
  · split <;> exact ⟨rfl, rfl⟩
  · exact ⟨rfl, rfl⟩
set_option maxHeartbeats 2000000 in
theorem DErase_any {w : World} {g : Nat} {c : Ch} (h : IsDc w g c) :
    Calls Try.prog 29 #[.pointer (some ⟨g, 0, none⟩)] w (DEraPost w g c) := by
  have H := Lib.hid h
  have hz : ∀ i : Nat, (0 : Int) ≤ (fun _ : Nat => (0 : Int)) i ∧ (fun _ : Nat => (0 : Int)) i ≤ 255 := fun _ => ⟨Int.le_refl _, by simp⟩
  have HZ := Lib.hid hz
  obtain ⟨b1, c1, hw1⟩ : ∃ b1 c1, c.write 0 (fun _ => 0) = (b1, c1) := ⟨_, _, rfl⟩
  have HW1 := Lib.hid hw1
  have hp1 := write_pn c 0 (fun _ => 0)
  rw [hw1] at hp1
  have HP1 : Hid (c1.pg = c.pg ∧ c1.n = c.n) := Lib.hid hp1
  clear h hz hw1 hp1
  go_enter Try.func29, Try.ntmps29
  go_wp2_with fail
  refine (DWrite_any H.out 0 (fun _ => 0) HZ.out).mono ?_
  rintro e w1 hp
  rw [HW1.out] at hp
  obtain ⟨he, h2, hk2⟩ := hp
  have he2 : e = .returned (.bool b1) := he
  subst he2
  clear he
  have H2 : Hid (IsDc w1 g c1) := Lib.hid h2
  have HK2 : Hid (Keep (Chp g c.pg) w w1) := Lib.hid (by have := hk2; simp only [HP1.out.1] at this; exact this)
  clear h2 hk2
  cases b1 with
  | false =>
    have HE : Hid (c.erase = (false, c1)) := Lib.hid (by unfold Ch.erase; rw [HW1.out]; rfl)
    go_wp2_with fail
    go_ret
    unfold DEraPost
    rw [HE.out]
    exact ⟨by simp, Lib.hid ⟨H2.out, HK2.out⟩⟩
  | true =>
    have HE : Hid (c.erase = c1.write ((c.n / 2 : Nat) : Int) (fun _ => 0)) := Lib.hid (by unfold Ch.erase; rw [HW1.out]; rfl)
    obtain ⟨m, hm⟩ : ∃ m, m = c.n / 2 := ⟨_, rfl⟩
    have HM := Lib.hid hm
    obtain ⟨n, hn⟩ : ∃ n, n = c.n := ⟨_, rfl⟩
    have hdt : (n : Int).tdiv 2 = (m : Int) := by rw [Int.tdiv_eq_ediv_of_nonneg (by omega)]; omega
    have hdv : (n : Int) / 2 = (m : Int) := by omega
    have c0 : w1.cell? ⟨g, 0, none⟩ = some (.slice (some ⟨c1.pg, 0, none⟩) n n) := by
      rw [hn, ← HP1.out.2]
      exact H2.out.chip.cell 0
    have hmb : m ≤ 20000 := by have := H.out.n1; omega
    have hnb : n ≤ 40000 := by have := H.out.n1; omega
    clear hm hn
    obtain ⟨b2, c2, hw2⟩ : ∃ b2 c2, c1.write (m : Int) (fun _ => 0) = (b2, c2) := ⟨_, _, rfl⟩
    have HW2 := Lib.hid hw2
    have hp2 := write_pn c1 (m : Int) (fun _ => 0)
    rw [hw2] at hp2
    have HP2 : Hid (c2.pg = c.pg) := Lib.hid (by rw [← HP1.out.1]; exact hp2.1)
    clear hw2 hp2
    go_wp2_with fail
    have hcall := DWrite_any H2.out (m : Int) (fun _ => 0) HZ.out
    rw [HW2.out, show pageV (fun _ => 0) = .agg #[.int .u8 0, .int .u8 0, .int .u8 0, .int .u8 0, .int .u8 0, .int .u8 0, .int .u8 0, .int .u8 0] from rfl] at hcall
    refine hcall.mono ?_
    clear hcall
    rintro e w3 hp
    obtain ⟨he, h3, hk3⟩ := hp
    have he2 : e = .returned (.bool b2) := he
    subst he2
    clear he
    have H3 : Hid (IsDc w3 g c2) := Lib.hid h3
    have HK3 : Hid (Keep (Chp g c.pg) w w3) := Lib.hid (HK2.out.trans hk3 (fun i hi => .inl (by simp only [HP2.out] at hi; exact hi)))
    clear h3 hk3
    cases b2 with
    | false =>
      go_wp2_with fail
      go_ret
      unfold DEraPost
      rw [HE.out, ← HM.out, HW2.out]
      exact ⟨by simp, Lib.hid ⟨H3.out, HK3.out⟩⟩
    | true =>
      go_wp2_with fail
      go_ret
      unfold DEraPost
      rw [HE.out, ← HM.out, HW2.out]
      exact ⟨by simp, Lib.hid ⟨H3.out, HK3.out⟩⟩
end Go.Proofs.Ytgegpeicpbhnkaa.Nvm
