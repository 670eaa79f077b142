/- PdoSends's walk. -/
import Derived.Test.YtcgnkabblmoboaaPdoH
namespace Go.Proofs.Ytcgnkabblmoboaa.Pdo
open Go.RowKit Go.Proofs.Ytcgnkabblmoboaa.Own
structure PAct where
  kind : Int
  on : Bool
  times : Int
def ActsAt (w : World) (A : Option Addr) (xs : List PAct) : Prop := ∀ i x, xs[i]? = some x → ∃ b o, A = some ⟨b, o, none⟩ ∧ b < w.heap.size ∧
  w.cell? ⟨b, o + i * 3, none⟩ = some (.int .i64 x.kind) ∧ w.cell? ⟨b, o + i * 3 + 1, none⟩ = some (.bool x.on) ∧ w.cell? ⟨b, o + i * 3 + 2, none⟩ = some (.int .u8 x.times) ∧ 0 ≤ x.times ∧ x.times ≤ 255
theorem DoesPost.rel {w w' : World} {g f : Nat} {s : Sd} {d : Rs} {n : Int} {k : Int} {b : Bool} {e : Ending} (h : DoesPost w g f (s.act k b) (d.act k b) e w') (hr : Rel s d n) :
    ∃ (r : Bool) (s' : Sd) (d' : Rs), e = .returned (.tuple #[.bool r, .bool r]) ∧ IsSd w' g s' ∧ IsRs w' f d' ∧ Keep (Two g f) w w' ∧ Rel s' d' (n + 1) := by
  obtain ⟨rfl, h1, h2, h3⟩ := h
  obtain ⟨r1, r2⟩ := hr.act k b
  exact ⟨_, _, _, by rw [← r1], h1, h2, h3, r2⟩
set_option maxHeartbeats 4000000 in
theorem sends_walk (t i v : Int) (i0 : 0 ≤ i) (A : Option Addr) (c : Nat) (acts : List PAct) (w : World) (ha : ActsAt w A acts) (hl : acts.length ≤ 140737488355328) :
    Calls Try.prog 7 #[formV t i v, .slice A acts.length c] w fun e w' => e = .returned (.bool true) ∧ Keep Zero w w' := by
  unfold formV
  have HA := Lib.hid ha
  clear ha
  obtain ⟨ok, hok⟩ : ∃ ok, okB t i v = ok := ⟨_, rfl⟩
  have HO := Lib.hid hok
  clear hok
  cases ok with
  | false =>
    go_enter Try.func7, Try.ntmps7
    go_wp2_with fail
    refine (New_bad t i v HO.out _).mono ?_
    rintro e w1 ⟨rfl, h1⟩
    have B1 : Hid (Blk w1 w.heap.size #[.int .i64 t, .int .u64 i, .int .u64 v] 39) := Lib.hid ((Blk.new w _ _).keep h1 id)
    have K1 : Hid (Keep Zero w w1) := ((Keep.refl Zero w).alloc _).trans h1 (fun i hi => hi.elim)
    clear h1
    have d0 := B1.out.cell 0
    have d1 := B1.out.cell 1
    have d2 := B1.out.cell 2
    go_wp2_with fail
    refine (RCheck_any t i v _ HO.out _).mono ?_
    rintro e w2 ⟨rfl, h1⟩
    have B2 := Lib.hid (B1.out.keep h1 id)
    have K2 : Hid (Keep Zero w w2) := K1.out.trans h1 (fun i hi => hi.elim)
    clear h1 d0 d1 d2 B1 K1
    have d0 := B2.out.cell 0
    have d1 := B2.out.cell 1
    have d2 := B2.out.cell 2
    have he : err false = 1 := rfl
    go_wp2_with fail
    refine (Check_any t i v _ HO.out _).mono ?_
    rintro e w3 ⟨rfl, h1⟩
    have K3 : Hid (Keep Zero w w3) := K2.out.trans h1 (fun i hi => hi.elim)
    clear h1 d0 d1 d2 K2
    go_wp2_with ((with_reducible refine (lives_any _).mono ?_); rintro e w' ⟨rfl, hk⟩)
    go_ret
    rename_i hk
    exact ⟨rfl, K3.out.trans hk.out (fun i hi => hi.elim)⟩
  | true =>
    go_enter Try.func7, Try.ntmps7
    go_wp2_with fail
    refine (New_ok t i v HO.out _).mono ?_
    rintro e w1 ⟨g, rfl, hs, hg, h1⟩
    have B1 : Hid (Blk w1 w.heap.size #[.int .i64 t, .int .u64 i, .int .u64 v] 39) := Lib.hid ((Blk.new w _ _).keep h1 id)
    have K1 : Hid (Keep Zero w w1) := ((Keep.refl Zero w).alloc _).trans h1 (fun i hi => hi.elim)
    have S1 := Lib.hid hs
    have HG : Hid (w.heap.size + 1 ≤ g) := Lib.hid (by simpa using hg)
    clear h1 hs hg
    have d0 := B1.out.cell 0
    have d1 := B1.out.cell 1
    have d2 := B1.out.cell 2
    go_wp2_with fail
    refine (RCheck_any t i v _ HO.out _).mono ?_
    rintro e w2 ⟨rfl, h1⟩
    have B2 := Lib.hid (B1.out.keep h1 id)
    have S2 := Lib.hid (S1.out.keep h1 id)
    have K2 : Hid (Keep Zero w w2) := K1.out.trans h1 (fun i hi => hi.elim)
    clear h1 d0 d1 d2 B1 K1 S1
    have d0 := B2.out.cell 0
    have d1 := B2.out.cell 1
    have d2 := B2.out.cell 2
    have he : err true = 0 := rfl
    go_wp2_with fail
    refine (Check_any t i v _ HO.out _).mono ?_
    rintro e w3 ⟨rfl, h1⟩
    have B3 := Lib.hid (B2.out.keep h1 id)
    have S3 := Lib.hid (S2.out.keep h1 id)
    have K3 : Hid (Keep Zero w w3) := K2.out.trans h1 (fun i hi => hi.elim)
    clear h1 d0 d1 d2 B2 K2 S2
    have d0 := B3.out.cell 0
    have d1 := B3.out.cell 1
    have d2 := B3.out.cell 2
    go_wp2_with fail
    have R4 : Hid (IsRs (w3.alloc (.cells (Rs.new t i v).cells 47)) w3.heap.size (Rs.new t i v)) := Lib.hid (Blk.new _ _ _)
    have S4 := Lib.hid (S3.out.alloc (.cells (Rs.new t i v).cells 47))
    have K4 := Lib.hid (K3.out.alloc (.cells (Rs.new t i v).cells 47))
    have L4 : Hid (g < w3.heap.size) := Lib.hid S3.out.lt
    go_loopg [8] acts.length (fun k i wr => ∃ (j : Nat) (s : Sd) (d : Rs), j ≤ acts.length ∧ k = acts.length - j ∧ i = .int .i64 j ∧ IsSd wr g s ∧ IsRs wr w3.heap.size d ∧ Keep Zero w wr ∧ Rel s d (j * 256))
    case atStart => exact ⟨0, _, _, Nat.zero_le _, rfl, rfl, S4.out, R4.out, K4.out, Rel.new HO.out i0⟩
    case round =>
      obtain ⟨j, s, d, hj, hk, rfl, hs, hd, hkp, hr⟩ := hrel
      have HM := Lib.hid hk
      have HS := Lib.hid hs
      have HD := Lib.hid hd
      have HK := Lib.hid hkp
      have HR := Lib.hid hr
      clear hk hs hd hkp hr
      by_cases hlt : j < acts.length
      · obtain ⟨x, hx⟩ : ∃ x, acts[j]? = some x := ⟨acts[j], List.getElem?_eq_getElem hlt⟩
        obtain ⟨b, o, rfl, hb, hc0, hc1, hc2, x0, x1⟩ := HA.out j x hx
        have h1 : (j : Int) < (acts.length : Int) := by omega
        clear hx
        go_wp2_with fail
        go_loopg [9] (x.times.toNat + 2) (fun k i wr' => ∃ (m : Nat) (s : Sd) (d : Rs), m ≤ x.times.toNat + 1 ∧ k = x.times.toNat + 2 - m ∧ i = .int .i64 m ∧ IsSd wr' g s ∧ IsRs wr' w3.heap.size d ∧ Keep Zero w wr' ∧ Rel s d (j * 256 + m))
        case atStart => exact ⟨0, _, _, Nat.zero_le _, rfl, rfl, HS.out, HD.out, HK.out, by simpa using HR.out⟩
        case round =>
          clear HS HD HK HR s d
          obtain ⟨m, s, d, hm, hk, rfl, hs, hd, hkp, hr⟩ := hrel
          have HN := Lib.hid hk
          have HS := Lib.hid hs
          have HD := Lib.hid hd
          have HK := Lib.hid hkp
          have HR := Lib.hid hr
          have hc0' := ((HK.out.cell (p := ⟨b, o + j * 3, none⟩) hb id).trans hc0)
          have hc1' := ((HK.out.cell (p := ⟨b, o + j * 3 + 1, none⟩) hb id).trans hc1)
          have hc2' := ((HK.out.cell (p := ⟨b, o + j * 3 + 2, none⟩) hb id).trans hc2)
          clear hk hs hd hkp hr
          by_cases hmt : (m : Int) ≤ x.times
          · go_wp2_with fail
            refine (does_any HS.out HD.out (by have := L4.out; omega) (HR.out.bds (by omega)) x.kind x.on x.times x0 x1).mono ?_
            rintro e w5 hdp
            obtain ⟨r, s', d', rfl, hs, hd, hkp, hr⟩ := hdp.rel HR.out
            have HS5 := Lib.hid hs
            have HD5 := Lib.hid hd
            have HK5 := Lib.hid (HK.out.trans hkp (fun i hi => .inr (by have := HG.out; have := L4.out; unfold Two at hi; omega)))
            have HR5 := Lib.hid hr
            have br : (r != r) = false := by simp
            clear hs hd hkp hr hdp
            go_wp2_with fail
            go_roundg (x.times.toNat + 2 - (m + 1))
            case measure => rw [HN.out]; omega
            case rel => exact ⟨m + 1, s', d', by omega, rfl, by go_num, HS5.out, HD5.out, HK5.out, by
              have := HR5.out
              rw [Int.add_assoc] at this
              exact this⟩
          · go_wp2_with fail
            go_roundg (acts.length - (j + 1))
            case measure => rw [HM.out]; omega
            case rel => exact ⟨j + 1, s, d, hlt, rfl, by go_num, HS.out, HD.out, HK.out, HR.out.more (by omega)⟩
      · have h1 : ¬ (j : Int) < (acts.length : Int) := by omega
        clear hlt
        go_wp2_with ((with_reducible refine (lives_any _).mono ?_); rintro e w' ⟨rfl, hk⟩)
        go_ret
        rename_i hk
        exact ⟨rfl, HK.out.trans hk.out (fun i hi => hi.elim)⟩
end Go.Proofs.Ytcgnkabblmoboaa.Pdo
