/- That a node is found. -/
import Derived.Test.YtcmfcnljdeddfaaNumK
namespace Go.Proofs.Ytcmfcnljdeddfaa.Num
open Go.RowKit Go.Proofs.Ytcmfcnljdeddfaa.Own Go.Proofs.Ytcmfcnljdeddfaa.Crc
theorem fresh_given (n : Nat) (A : Nat → Nat → Int) : Given n (fun i => freshS (A i)) [] 0 :=
  ⟨fun _i _hi => rfl, fun _i _hi => .inl rfl, fun _i _k _hi _hk h => absurd rfl h⟩
def ones : Nat → Nat → Int := fun _ k => if k < 4 then (k : Int) + 1 else 0
set_option maxRecDepth 100000 in
set_option maxHeartbeats 4000000 in
theorem finds_any (w : World) : Calls Try.prog 16 #[] w fun e w' => e = .returned (.bool true) ∧ Hid (Keep Own.Zero w w') := by
  go_enter Try.func16, Try.ntmps16
  go_wp2_with fail
  refine (Slaves_any (A := ones) (n := 1) (m := 1) (L := 1) ⟨fun i hi => ?_, fun i k => ?_⟩ (by decide) (by decide) rfl).mono ?_
  · obtain rfl : i = 0 := by omega
    have hb := Blk.new w #[.int .u32 1, .int .u32 2, .int .u32 3, .int .u32 4, .int .i64 0] 59
    exact ⟨_, _, rfl, hb.lt, hb.cell 0, hb.cell 1, hb.cell 2, hb.cell 3, hb.cell 4⟩
  · unfold ones
    split <;> omega
  rintro e w2 ⟨P, Q, c1, c2, rfl, hp⟩
  have HP := Lib.hid hp.out
  clear hp
  go_wp2_with fail
  have hall : Calls Try.prog 18 #[.slice P 1 c1, .slice (some ⟨w2.heap.size, 0, none⟩) 1 1] (w2.alloc (.cells #[.int .i64 9] 3)) fun e w' => ∃ R c, e = .returned (.tuple #[.slice R 1 c, .int .i64 0]) ∧ Hid (Keep Own.Zero w w') := by
    obtain ⟨g, d, hs, _, _, hk, hnew⟩ := HP.out
    have h1 := All_any (cap := c1) (hs.zero ((Keep.refl Own.Zero w2).alloc (.cells #[.int .i64 9] 3))) (by decide) (fun i k hi hk _ => by omega) (fresh_given 1 ones) (some ⟨w2.heap.size, 0, none⟩) 1 [9] (Row.blk (Blk.new w2 _ 3) (fun i v hv => by simpa [ints] using hv)) (by decide) (fun a ha _ hof => by
      cases ha
      have := hs.lt hof
      exact Nat.lt_irrefl _ this)
    refine h1.mono ?_
    rintro e w' ⟨R, k, c, r, rfl, hq⟩
    obtain ⟨hk1, hkk, ⟨_, hng⟩ | ⟨_, σ, hs', hg', hcnt, hor⟩⟩ := hq.out
    · exact absurd ⟨by simp, by simp⟩ hng
    · have hc0 : cnt (fun i => freshS (ones i)) 1 = 1 := rfl
      rw [hc0] at hcnt
      have hkr : k = 1 ∧ r = 0 := by
        rcases hor with ⟨rfl, hno⟩ | ⟨_, hk2, i, hi, hf⟩
        · have : cnt σ 1 = 0 := by
            unfold cnt cnt
            rw [hno 0 (by decide)]
            rfl
          omega
        · have h2 := cnt_pos 1 hi hf
          simp at hk2
          omega
      obtain ⟨rfl, rfl⟩ := hkr
      refine ⟨R, c, rfl, Lib.hid ?_⟩
      have hk0 := Keep.trans (S := Own.Zero) ((Keep.refl Own.Zero w).alloc _) hk (fun _ hi => hi.elim)
      exact (hk0.alloc _).trans hkk (fun i hi => by
        obtain ⟨m, hm, rfl⟩ := hi
        have h3 := hnew m hm
        simp only [World.size_alloc] at h3
        exact .inr (by omega))
  refine hall.mono ?_
  clear hall
  rintro e w3 ⟨R, c, rfl, hk⟩
  go_wp2_with fail
  go_ret
  exact ⟨rfl, hk⟩
end Go.Proofs.Ytcmfcnljdeddfaa.Num
