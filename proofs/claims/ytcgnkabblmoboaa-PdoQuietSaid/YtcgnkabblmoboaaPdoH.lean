/- That pdo lives. -/
import Derived.Test.YtcgnkabblmoboaaPdoG
import Derived.Lib.SlBytesConst
namespace Go.Proofs.Ytcgnkabblmoboaa.Pdo
open Go.RowKit Go.Proofs.Ytcgnkabblmoboaa.Own
theorem str_x : ByteArray.mk #[120] = str [120] := by decide +kernel
set_option maxHeartbeats 4000000 in
theorem lives_any (w : World) : Calls Try.prog 10 #[] w fun e w' => e = .returned (.bool true) ∧ Hid (Keep Zero w w') := by
  have kc := fun (w : World) (C : Array Value) (n c : Nat) => Lib.run_convert_bytes_const (P := Try.prog) w 29 5 C n c under29 under5
  go_enter Try.func10, Try.ntmps10
  go_wp2_with fail
  refine (New_ok 254 3 0 (by decide) _).mono ?_
  rintro e w1 ⟨g, rfl, hd, hg, hk⟩
  have HS1 : Hid (IsSd w1 g ⟨254, 3, 0, false, false, 0, 0, 0⟩) := Lib.hid hd
  have HK1 := Lib.hid hk
  clear hd hk
  go_wp2_with fail
  refine (NewT_ok 1 (by decide) _).mono ?_
  rintro e w2 ⟨f, rfl, ht, hf, hk⟩
  have HT2 : Hid (IsTk w2 f ⟨1, false, none, 0, 0, false⟩) := Lib.hid ht
  have HS2 := Lib.hid (HS1.out.keep hk id)
  have HK2 := Lib.hid (HK1.out.trans hk (fun i hi => hi.elim))
  have gf : g < f := Nat.lt_of_lt_of_le HS1.out.lt hf
  have wf : w.heap.size ≤ f := by omega
  clear ht hk HK1 HS1
  go_wp2_with fail
  refine (Start_any HS2.out true).mono ?_
  rintro e w3 ⟨rfl, hs, hk⟩
  have HS3 : Hid (IsSd w3 g ⟨254, 3, 0, true, false, 0, 0, 0⟩) := Lib.hid hs
  have HT3 := Lib.hid (HT2.out.keep hk (fun e => by unfold Own.One at e; omega))
  have HK3 := Lib.hid (HK2.out.trans hk (fun i hi => .inr (by unfold Own.One at hi; omega)))
  clear hs hk HS2 HT2 HK2
  go_wp2_with fail
  refine (TStart_any HT3.out true).mono ?_
  rintro e w4 ⟨rfl, ht, hk⟩
  have HT4 : Hid (IsTk w4 f ⟨1, true, none, 0, 0, false⟩) := Lib.hid ht
  have HS4 := Lib.hid (HS3.out.keep hk (fun e => by unfold Own.One at e; omega))
  have HK4 := Lib.hid (HK3.out.trans hk (fun i hi => .inr (by unfold Own.One at hi; omega)))
  clear ht hk HS3 HT3 HK3
  go_wp2_with fail
  refine (Event_any HS4.out).mono ?_
  rintro e w5 ⟨he, hs, hk⟩
  obtain rfl : e = .returned (.bool true) := he
  have HS5 : Hid (IsSd w5 g ⟨254, 3, 0, true, false, 3, 0, 0⟩) := Lib.hid hs
  have HT5 := Lib.hid (HT4.out.keep hk (fun e => by unfold Own.One at e; omega))
  have HK5 := Lib.hid (HK4.out.trans hk (fun i hi => .inr (by unfold Own.One at hi; omega)))
  clear hs hk HS4 HT4 HK4
  go_wp2_with fail
  refine (Event_any HS5.out).mono ?_
  rintro e w6 ⟨he, hs, hk⟩
  obtain rfl : e = .returned (.bool false) := he
  have HS6 : Hid (IsSd w6 g ⟨254, 3, 0, true, true, 3, 0, 0⟩) := Lib.hid hs
  have HT6 := Lib.hid (HT5.out.keep hk (fun e => by unfold Own.One at e; omega))
  have HK6 := Lib.hid (HK5.out.trans hk (fun i hi => .inr (by unfold Own.One at hi; omega)))
  clear hs hk HS5 HT5 HK5
  go_wp2_with fail
  refine (Tick_any HS6.out (by decide) (by decide) (by decide) (by decide)).mono ?_
  rintro e w7 ⟨he, hs, hk⟩
  obtain rfl : e = .returned (.bool false) := he
  have HS7 : Hid (IsSd w7 g ⟨254, 3, 0, true, true, 2, 1, 0⟩) := Lib.hid hs
  have HT7 := Lib.hid (HT6.out.keep hk (fun e => by unfold Own.One at e; omega))
  have HK7 := Lib.hid (HK6.out.trans hk (fun i hi => .inr (by unfold Own.One at hi; omega)))
  clear hs hk HS6 HT6 HK6
  go_wp2_with fail
  refine (Tick_any HS7.out (by decide) (by decide) (by decide) (by decide)).mono ?_
  rintro e w8 ⟨he, hs, hk⟩
  obtain rfl : e = .returned (.bool false) := he
  have HS8 : Hid (IsSd w8 g ⟨254, 3, 0, true, true, 1, 2, 0⟩) := Lib.hid hs
  have HT8 := Lib.hid (HT7.out.keep hk (fun e => by unfold Own.One at e; omega))
  have HK8 := Lib.hid (HK7.out.trans hk (fun i hi => .inr (by unfold Own.One at hi; omega)))
  clear hs hk HS7 HT7 HK7
  go_wp2_with fail
  refine (Tick_any HS8.out (by decide) (by decide) (by decide) (by decide)).mono ?_
  rintro e w9 ⟨he, hs, hk⟩
  obtain rfl : e = .returned (.bool true) := he
  have HS9 : Hid (IsSd w9 g ⟨254, 3, 0, true, false, 3, 0, 0⟩) := Lib.hid hs
  have HT9 := Lib.hid (HT8.out.keep hk (fun e => by unfold Own.One at e; omega))
  have HK9 := Lib.hid (HK8.out.trans hk (fun i hi => .inr (by unfold Own.One at hi; omega)))
  clear hs hk HS8 HT8 HK8
  go_wp2_with fail
  have hb : Row (w9.alloc (.cells #[.int .u8 120] 5 (1, 2))) (some ⟨w9.heap.size, 0, none⟩) (ints .u8 [120]) := fun i v hv => ⟨_, _, rfl, by simp, by
    rw [World.cell?_alloc_mark]
    simpa [ints] using hv⟩
  have HT10 : Hid (IsTk (w9.alloc (.cells #[.int .u8 120] 5 (1, 2))) f ⟨1, true, none, 0, 0, false⟩) := Lib.hid (HT9.out.alloc _)
  have HK10 := Lib.hid (HK9.out.alloc (.cells #[.int .u8 120] 5 (1, 2)))
  refine (TTake_sync HT10.out rfl rfl (some ⟨w9.heap.size, 0, none⟩) 1 [120] hb (by decide) (fun h => by cases h) (by decide)).mono ?_
  rintro e w11 ⟨rfl, A, c, ht, hr, _, hk, ha⟩
  have HT11 : Hid (IsTk w11 f ⟨1, true, A, 1, c, true⟩) := Lib.hid ht
  have HR11 := Lib.hid hr
  have HA11 := Lib.hid (And.intro HT10.out.lt ha)
  have HK11 := Lib.hid (HK10.out.trans hk (fun i hi => .inr (by unfold Own.One at hi; omega)))
  clear ht hr hk ha hb HT10 HK10 HK9 HT9 HS9
  go_wp2_with fail
  refine (TSync_any HT11.out).mono ?_
  rintro e w12 ⟨rfl, ht, hk⟩
  have HK12 := Lib.hid (HK11.out.trans hk (fun i hi => .inr (by unfold Own.One at hi; omega)))
  have hrun : Sem.run Try.prog (convert 29 9 (.slice A 1 c)) w12 = .ok (.string (str [120])) w12 := run_str under29 under5 under9 (HR11.out.keep hk (fun a ha _ e => by have := HA11.out.2 a ha; have := HA11.out.1; unfold Own.One at e; omega)) 1 rfl
  rw [← str_x] at hrun
  clear ht hk HK11
  go_wp2
  go_ret
  exact ⟨rfl, HK12⟩
end Go.Proofs.Ytcgnkabblmoboaa.Pdo
