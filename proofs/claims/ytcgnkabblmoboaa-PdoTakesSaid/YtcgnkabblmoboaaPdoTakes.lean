/- PdoTakes's walk. -/
import Derived.Test.YtcgnkabblmoboaaPdoH
namespace Go.Proofs.Ytcgnkabblmoboaa.Pdo
open Go.RowKit Go.Proofs.Ytcgnkabblmoboaa.Own
structure Cm where
  kind : Int
  on : Bool
  A : Option Addr
  c : Nat
  ys : List Int
structure CmOk (w : World) (b o : Nat) (x : Cm) : Prop where
  c0 : w.cell? ⟨b, o, none⟩ = some (.int .i64 x.kind)
  c1 : w.cell? ⟨b, o + 1, none⟩ = some (.bool x.on)
  c2 : w.cell? ⟨b, o + 2, none⟩ = some (.slice x.A x.ys.length x.c)
  row : Row w x.A (ints .u8 x.ys)
  le : x.ys.length ≤ x.c
  nil : x.A = none → x.c = 0
  big : x.ys.length ≤ 140737488355328
def CmsAt (w : World) (A : Option Addr) (xs : List Cm) : Prop := ∀ i x, xs[i]? = some x → ∃ b o, A = some ⟨b, o, none⟩ ∧ b < w.heap.size ∧ CmOk w b (o + i * 3) x
/-- What waits. -/
structure Wts (w : World) (g : Nat) (A : Option Addr) (n : Nat) (xs : List Int) : Prop where
  len : n = xs.length
  row : Row w A (ints .u8 xs)
  far : ∀ a, A = some a → ints .u8 xs ≠ [] → a.block ≠ g
/-- A slice that the call has made: it may be written. -/
def MineAt (w : World) (A : Option Addr) (n : Nat) (q : Nat) : Prop := 0 < n → A = some ⟨q, 0, none⟩ ∧ ∃ cur, Blk w q cur 5 ∧ n ≤ cur.size
def Mine (w : World) (base : Nat) (A : Option Addr) (n : Nat) (q : Nat) : Prop := base ≤ q ∧ MineAt w A n q
theorem own_mine {w : World} {base n : Nat} {v : Value} {xs : List Value} (h : w.ownsRow base 5 1 v n xs) : ∃ A c q, v = .slice A n c ∧ Row w A xs ∧ n ≤ c ∧ (A = none → c = 0) ∧ Mine w base A n q := by
  obtain ⟨A, c, rfl, hr, hc, hm, hb⟩ := Row.own h
  obtain ⟨hl, ⟨hv, rfl⟩ | ⟨g, cap, cur, hv, hbg, hh, hn, hm2, hcs, ht⟩⟩ := h
  · cases hv
    exact ⟨none, 0, base, rfl, hr, hc, fun _ => rfl, Nat.le_refl _, fun k => by omega⟩
  · cases hv
    exact ⟨some ⟨g, 0, none⟩, c, g, rfl, hr, hc, (fun k => by cases k), hbg, fun _ => ⟨rfl, cur, hh, by omega⟩⟩
theorem MineAt.keep {S : Nat → Prop} {w w1 : World} {A : Option Addr} {n q : Nat} (h : MineAt w A n q) (k : Keep S w w1) (hn : ¬ S q) : MineAt w1 A n q := fun h0 => by
  obtain ⟨h1, cur, h2, h3⟩ := h h0
  exact ⟨h1, cur, h2.keep k hn, h3⟩
theorem Wts.keep {S : Nat → Prop} {w w1 : World} {g : Nat} {A : Option Addr} {n : Nat} {xs : List Int} (h : Wts w g A n xs) (k : Keep S w w1) (hs : ∀ i, S i → i = g ∨ w.heap.size ≤ i) : Wts w1 g A n xs :=
  ⟨h.len, h.row.keep k (fun a ha hn hb => by
    have h1 := h.far a ha hn
    have h2 := h.row.old ha hn
    rcases hs _ hb with h3 | h3
    · exact h1 h3
    · omega), h.far⟩
set_option maxRecDepth 100000 in
set_option maxHeartbeats 8000000 in
theorem takes_walk (t : Int) (hok : isB t = true) (A : Option Addr) (c : Nat) (l : List Cm) (w : World) (hl : CmsAt w A l) (hn : l.length ≤ 140737488355328) :
    Calls Try.prog 3 #[.int .i64 t, .slice A l.length c] w fun e w' => e = .returned (.bool true) ∧ Keep Zero w w' := by
  have HO := Lib.hid hok
  have HL := Lib.hid hl
  clear hok hl
  go_enter Try.func3, Try.ntmps3
  go_wp2_with fail
  refine (NewT_ok t HO.out _).mono ?_
  rintro e w1 ⟨g, rfl, ht, hg, hk⟩
  have HT1 := Lib.hid ht
  have HG := Lib.hid hg
  have HK1 := Lib.hid hk
  clear ht hg hk
  go_wp2_with fail
  refine (RIs_any t true HO.out _).mono ?_
  rintro e w' ⟨rfl, rfl⟩
  go_wp2_with fail
  go_loopg [7, 8, 9, 10] l.length (fun k s7 s8 s9 s10 wr => ∃ (j : Nat) (on has : Bool) (A : Option Addr) (n c : Nat) (xs : List Int), j ≤ l.length ∧ k = l.length - j ∧ s10 = .int .i64 j ∧ s7 = .bool on ∧ s8 = .bool has ∧ s9 = .string (str xs) ∧ IsTk wr g ⟨t, on, A, n, c, has⟩ ∧ (has = true → Wts wr g A n xs) ∧ Keep Zero w wr)
  case atStart => exact ⟨0, false, false, none, 0, 0, [], Nat.zero_le _, rfl, rfl, rfl, rfl, rfl, HT1.out, (fun h => by cases h), HK1.out⟩
  case round =>
    obtain ⟨wo, hwo⟩ : ∃ x, x = wr := ⟨_, rfl⟩
    subst hwo
    obtain ⟨j, on, has, A', n', c', xs, hj, hk, rfl, rfl, rfl, rfl, ht, hw, hkp⟩ := hrel
    have HM := Lib.hid hk
    have HT := Lib.hid ht
    have HW := Lib.hid hw
    have HK := Lib.hid hkp
    clear hk ht hw hkp HT1 HK1
    by_cases hlt : j < l.length
    · obtain ⟨x, hx⟩ : ∃ x, l[j]? = some x := ⟨l[j], List.getElem?_eq_getElem hlt⟩
      obtain ⟨b, o, rfl, hb, hcm⟩ := HL.out j x hx
      have HCm := Lib.hid hcm
      have z0 := (HK.out.cell (p := ⟨b, o + j * 3, none⟩) hb id).trans hcm.c0
      have z1 := (HK.out.cell (p := ⟨b, o + j * 3 + 1, none⟩) hb id).trans hcm.c1
      have z2 := (HK.out.cell (p := ⟨b, o + j * 3 + 2, none⟩) hb id).trans hcm.c2
      have h1 : (j : Int) < (l.length : Int) := by omega
      have h0 : (0 : Int) ≤ (j : Int) := by omega
      clear hx hcm
      by_cases k0 : x.kind = 0
      · rw [k0] at z0
        have HOw : Hid (((wo.alloc (.cells #[.int .i64 0, .bool x.on, .slice x.A x.ys.length x.c] 31)).alloc (.cells #[] 5)).ownsRow (wo.heap.size + 1) 5 1 (.slice (some ⟨wo.heap.size + 1, 0, none⟩) 0 0) 0 []) := Lib.hid (own_empty 1 (Blk.at_ (by simp)))
        have HRw : Hid (Row ((wo.alloc (.cells #[.int .i64 0, .bool x.on, .slice x.A x.ys.length x.c] 31)).alloc (.cells #[] 5)) x.A (ints .u8 x.ys)) := Lib.hid (HCm.out.row.keep ((HK.out.alloc _).alloc _) (fun _ _ _ => id))
        go_wp2_with (at_builtin; refine app_own rfl (.tmp 56) (.tmp 58) 29 rfl (wo.heap.size + 1) 5 (.int .u8 0) 1 1 under29 info5 rfl (by decide) (.slice (some ⟨wo.heap.size + 1, 0, none⟩) 0 0) 0 [] rfl HOw.out x.A x.ys.length x.c (ints .u8 x.ys) rfl (by rw [ints_length]; omega) HCm.out.nil HRw.out (ints_one _ _) (by have := HCm.out.big; unfold maxLen; omega) (by have := HCm.out.big; omega) (by simp) ?_; intro v' w2 hown2 hgr2)
        have HGr := Lib.hid hgr2
        have HB2 : Hid (Blk w2 wo.heap.size #[.int .i64 0, .bool x.on, .slice x.A x.ys.length x.c] 31) := Lib.hid (Blk.grown (Blk.alloc (Blk.new wo _ _) _) HGr.out (by simp [Value.ownBlock]))
        have HK2 : Hid (Keep Zero w w2) := Lib.hid (((HK.out.alloc _).alloc _).grown HGr.out (fun k hk => .inr (by simp [Value.ownBlock] at hk; have := HK.out.size; omega)))
        have HKr : Hid (Keep Zero wo w2) := Lib.hid (((Keep.refl Zero wo).alloc _).alloc _ |>.grown HGr.out (fun k hk => .inr (by simp [Value.ownBlock] at hk; omega)))
        have HT2 := Lib.hid (HT.out.keep HKr.out id)
        rw [Nat.zero_add, List.nil_append] at hown2
        obtain ⟨A2, c2, q, rfl, hr2, hc2, hn2, hmine⟩ := own_mine hown2
        have HR2 := Lib.hid hr2
        have HC2 := Lib.hid (And.intro hc2 hn2)
        have HQ : Hid (wo.heap.size + 1 ≤ q) := Lib.hid hmine.1
        have HMi2 := Lib.hid hmine.2
        have HS2 : Hid (wo.heap.size + 1 ≤ w2.heap.size) := Lib.hid (by have := HGr.out.size; simp at this; omega)
        clear hown2 hgr2 hr2 hc2 hn2 hmine HGr HRw HOw z0 z1 z2
        cases on with
        | false =>
          go_wp2_with fail
          refine (TTake_off HT2.out rfl _).mono ?_
          rintro e w' ⟨rfl, rfl⟩
          have HT3 := HT2
          have HB3 := HB2
          have HK3 := HK2
          have HMi3 := HMi2
          go_wp2_with fail
          go_loopg [15] x.ys.length (fun k i wr' => ∃ m : Nat, m ≤ x.ys.length ∧ k = x.ys.length - m ∧ i = .int .i64 m ∧ MineAt wr' A2 x.ys.length q ∧ Keep (Own.One q) w2 wr')
          case atStart => exact ⟨0, Nat.zero_le _, rfl, rfl, HMi3.out, Keep.refl _ _⟩
          case round =>
            obtain ⟨m, hm, hk, rfl, hmi, hkp⟩ := hrel
            have HN := Lib.hid hk
            have HK4 := Lib.hid hkp
            have HMi := Lib.hid hmi
            clear hk hkp hmi
            by_cases hlm : m < x.ys.length
            · obtain ⟨rfl, cur, hcur, hsz⟩ := HMi.out (by omega)
              have HCur := Lib.hid hcur
              have hl2 : (m : Int) < (x.ys.length : Int) := by omega
              have hby := HCm.out.big
              have hm0 : (0 : Int) ≤ (m : Int) := by omega
              obtain ⟨old, hold⟩ : ∃ v, cur[m]? = some v := ⟨cur[m]'(by omega), Array.getElem?_eq_getElem _⟩
              have hce := (hcur.cell m).trans hold
              have hfr := hcur.frozen m
              clear hcur hold
              go_wp2_with fail
              go_roundg (x.ys.length - (m + 1))
              case measure => rw [HN.out]; omega
              case rel => exact ⟨m + 1, hlm, rfl, by go_num, fun _ => ⟨rfl, _, HCur.out.set m _, by simpa using hsz⟩, HK4.out.set1 m _⟩
            · have hl2 : ¬ (m : Int) < (x.ys.length : Int) := by omega
              clear hlm
              have d2 : wr.cell? ⟨wo.heap.size, 2, none⟩ = some (.slice x.A x.ys.length x.c) := (HK4.out.cell (p := ⟨wo.heap.size, 2, none⟩) HB3.out.lt (fun e => by have := HQ.out; have e' : wo.heap.size = q := e; omega)).trans (HB3.out.cell 2)
              have HKw := Lib.hid (HK3.out.trans HK4.out (fun i hi => .inr (by have := HQ.out; have := HK.out.size; unfold Own.One at hi; omega)))
              have HT4 := Lib.hid (HT3.out.keep HK4.out (fun e => by have := HQ.out; have := HT.out.lt; unfold Own.One at e; omega))
              go_wp2_with fail
              go_roundg (l.length - (j + 1))
              case measure => rw [HM.out]; omega
              have HKo : Hid (Keep (Own.One q) wo wr) := Lib.hid ((HKr.out.mono (fun i hi => hi.elim)).trans HK4.out (fun i hi => .inl hi))
              case rel => exact ⟨j + 1, false, has, _, _, _, xs, hlt, rfl, by go_num, rfl, rfl, rfl, HT4.out, fun h => (HW.out h).keep HKo.out (fun i hi => by unfold Own.One at hi; have := HQ.out; omega), HKw.out⟩
        | true =>
          obtain ⟨fr, hfr⟩ : ∃ fr, freeB t = fr := ⟨_, rfl⟩
          have HFr := Lib.hid hfr
          clear hfr
          cases fr with
          | true =>
            go_wp2_with fail
            refine (TTake_free HT2.out rfl HFr.out A2 c2 x.ys HR2.out HC2.out.1 HC2.out.2 HCm.out.big).mono ?_
            rintro e w3 ⟨A3, c3, rfl, hr3, hc3, hk3, ha3⟩
            have HR3 := Lib.hid hr3
            have HA3 := Lib.hid ha3
            have HT3 := Lib.hid (HT2.out.keep hk3 id)
            have HB3 := Lib.hid (HB2.out.keep hk3 id)
            have HKr3 := Lib.hid (HKr.out.trans hk3 (fun i hi => hi.elim))
            have HK3 := Lib.hid (HK2.out.trans hk3 (fun i hi => hi.elim))
            have HMi3 := Lib.hid (HMi2.out.keep hk3 id)
            have HL2 : Hid (0 < x.ys.length → q < w2.heap.size) := Lib.hid (fun h => by obtain ⟨_, _, h2, _⟩ := HMi2.out h; exact h2.lt)
            clear hr3 ha3 hk3 hc3 HKr
            have HKr := HKr3
            go_wp2_with fail
            go_loopg [15] x.ys.length (fun k i wr' => ∃ m : Nat, m ≤ x.ys.length ∧ k = x.ys.length - m ∧ i = .int .i64 m ∧ MineAt wr' A2 x.ys.length q ∧ Keep (Own.One q) w3 wr')
            case atStart => exact ⟨0, Nat.zero_le _, rfl, rfl, HMi3.out, Keep.refl _ _⟩
            case round =>
              obtain ⟨m, hm, hk, rfl, hmi, hkp⟩ := hrel
              have HN := Lib.hid hk
              have HK4 := Lib.hid hkp
              have HMi := Lib.hid hmi
              clear hk hkp hmi
              by_cases hlm : m < x.ys.length
              · obtain ⟨rfl, cur, hcur, hsz⟩ := HMi.out (by omega)
                have HCur := Lib.hid hcur
                have hl2 : (m : Int) < (x.ys.length : Int) := by omega
                have hby := HCm.out.big
                have hm0 : (0 : Int) ≤ (m : Int) := by omega
                obtain ⟨old, hold⟩ : ∃ v, cur[m]? = some v := ⟨cur[m]'(by omega), Array.getElem?_eq_getElem _⟩
                have hce := (hcur.cell m).trans hold
                have hfr := hcur.frozen m
                clear hcur hold
                go_wp2_with fail
                go_roundg (x.ys.length - (m + 1))
                case measure => rw [HN.out]; omega
                case rel => exact ⟨m + 1, hlm, rfl, by go_num, fun _ => ⟨rfl, _, HCur.out.set m _, by simpa using hsz⟩, HK4.out.set1 m _⟩
              · have hl2 : ¬ (m : Int) < (x.ys.length : Int) := by omega
                clear hlm
                have d2 : wr.cell? ⟨wo.heap.size, 2, none⟩ = some (.slice x.A x.ys.length x.c) := (HK4.out.cell (p := ⟨wo.heap.size, 2, none⟩) HB3.out.lt (fun e => by have := HQ.out; have e' : wo.heap.size = q := e; omega)).trans (HB3.out.cell 2)
                have HKw := Lib.hid (HK3.out.trans HK4.out (fun i hi => .inr (by have := HQ.out; have := HK.out.size; unfold Own.One at hi; omega)))
                have HT4 := Lib.hid (HT3.out.keep HK4.out (fun e => by have := HQ.out; have := HT.out.lt; unfold Own.One at e; omega))
                have hr1 : Sem.run Try.prog (convert 29 9 (.slice A3 x.ys.length c3)) wr = .ok (.string (str x.ys)) wr := run_str under29 under5 under9 (HR3.out.keep HK4.out (fun a ha hn e => by
                  have := HA3.out a ha
                  have e' : a.block = q := e
                  have := HL2.out (List.length_pos_iff.2 (fun h => hn (by rw [h]; rfl)))
                  omega)) _ rfl
                have hr2 : Sem.run Try.prog (convert 29 9 (.slice x.A x.ys.length x.c)) wr = .ok (.string (str x.ys)) wr := run_str under29 under5 under9 (HCm.out.row.keep HKw.out (fun _ _ _ => id)) _ rfl
                go_wp2_with ((with_reducible refine (RFree_any t true HFr.out _).mono ?_); rintro e w' ⟨rfl, rfl⟩)
                go_roundg (l.length - (j + 1))
                case measure => rw [HM.out]; omega
                have HKo : Hid (Keep (Own.One q) wo wr) := Lib.hid ((HKr.out.mono (fun i hi => hi.elim)).trans HK4.out (fun i hi => .inl hi))
                case rel => exact ⟨j + 1, true, has, _, _, _, xs, hlt, rfl, by go_num, rfl, rfl, rfl, HT4.out, fun h => (HW.out h).keep HKo.out (fun i hi => by unfold Own.One at hi; have := HQ.out; omega), HKw.out⟩
          | false =>
            go_wp2_with fail
            refine (TTake_sync HT2.out rfl HFr.out A2 c2 x.ys HR2.out HC2.out.1 HC2.out.2 HCm.out.big).mono ?_
            rintro e w3 ⟨rfl, A3, c3, ht3, hr3, hc3, hk3, ha3⟩
            have HR3 := Lib.hid hr3
            have HA3 := Lib.hid ha3
            have HT3 : Hid (IsTk w3 g ⟨t, true, A3, x.ys.length, c3, true⟩) := Lib.hid ht3
            have HB3 := Lib.hid (HB2.out.keep hk3 (fun e => by have := HT.out.lt; have e' : wo.heap.size = g := e; omega))
            have HKr3 : Hid (Keep (Own.One g) wo w3) := Lib.hid ((HKr.out.mono (fun i hi => hi.elim)).trans hk3 (fun i hi => .inl hi))
            have HK3 := Lib.hid (HK2.out.trans hk3 (fun i hi => .inr (by have := HG.out; unfold Own.One at hi; omega)))
            have HMi3 := Lib.hid (HMi2.out.keep hk3 (fun e => by have := HT.out.lt; have := HQ.out; have e' : q = g := e; omega))
            have HL2 : Hid (0 < x.ys.length → q < w2.heap.size) := Lib.hid (fun h => by obtain ⟨_, _, h2, _⟩ := HMi2.out h; exact h2.lt)
            have HG2 := Lib.hid HT2.out.lt
            clear hr3 ha3 hk3 hc3 ht3
            go_wp2_with fail
            go_loopg [15] x.ys.length (fun k i wr' => ∃ m : Nat, m ≤ x.ys.length ∧ k = x.ys.length - m ∧ i = .int .i64 m ∧ MineAt wr' A2 x.ys.length q ∧ Keep (Own.One q) w3 wr')
            case atStart => exact ⟨0, Nat.zero_le _, rfl, rfl, HMi3.out, Keep.refl _ _⟩
            case round =>
              obtain ⟨m, hm, hk, rfl, hmi, hkp⟩ := hrel
              have HN := Lib.hid hk
              have HK4 := Lib.hid hkp
              have HMi := Lib.hid hmi
              clear hk hkp hmi
              by_cases hlm : m < x.ys.length
              · obtain ⟨rfl, cur, hcur, hsz⟩ := HMi.out (by omega)
                have HCur := Lib.hid hcur
                have hl2 : (m : Int) < (x.ys.length : Int) := by omega
                have hby := HCm.out.big
                have hm0 : (0 : Int) ≤ (m : Int) := by omega
                obtain ⟨old, hold⟩ : ∃ v, cur[m]? = some v := ⟨cur[m]'(by omega), Array.getElem?_eq_getElem _⟩
                have hce := (hcur.cell m).trans hold
                have hfr := hcur.frozen m
                clear hcur hold
                go_wp2_with fail
                go_roundg (x.ys.length - (m + 1))
                case measure => rw [HN.out]; omega
                case rel => exact ⟨m + 1, hlm, rfl, by go_num, fun _ => ⟨rfl, _, HCur.out.set m _, by simpa using hsz⟩, HK4.out.set1 m _⟩
              · have hl2 : ¬ (m : Int) < (x.ys.length : Int) := by omega
                clear hlm
                have d2 : wr.cell? ⟨wo.heap.size, 2, none⟩ = some (.slice x.A x.ys.length x.c) := (HK4.out.cell (p := ⟨wo.heap.size, 2, none⟩) HB3.out.lt (fun e => by have := HQ.out; have e' : wo.heap.size = q := e; omega)).trans (HB3.out.cell 2)
                have HKw := Lib.hid (HK3.out.trans HK4.out (fun i hi => .inr (by have := HQ.out; have := HK.out.size; unfold Own.One at hi; omega)))
                have HT4 := Lib.hid (HT3.out.keep HK4.out (fun e => by have := HQ.out; have := HT.out.lt; unfold Own.One at e; omega))
                have HRw : Hid (Row wr A3 (ints .u8 x.ys)) := Lib.hid (HR3.out.keep HK4.out (fun a ha hn e => by
                  have := HA3.out a ha
                  have e' : a.block = q := e
                  have := HL2.out (List.length_pos_iff.2 (fun h => hn (by rw [h]; rfl)))
                  omega))
                have hr2 : Sem.run Try.prog (convert 29 9 (.slice x.A x.ys.length x.c)) wr = .ok (.string (str x.ys)) wr := run_str under29 under5 under9 (HCm.out.row.keep HKw.out (fun _ _ _ => id)) _ rfl
                have hr4 : Sem.run Try.prog (convert 29 9 (.slice x.A x.ys.length x.c)) wr.drew = .ok (.string (str x.ys)) wr.drew := run_str under29 under5 under9 (HCm.out.row.keep HKw.out.drew (fun _ _ _ => id)) _ rfl
                go_wp2_with ((with_reducible refine (RFree_any t false HFr.out _).mono ?_); rintro e w' ⟨rfl, rfl⟩)
                go_region
                go_wp2_with fail
                go_roundg (l.length - (j + 1))
                case measure => rw [HM.out]; omega
                case rel => exact ⟨j + 1, true, true, _, _, _, x.ys, hlt, rfl, by go_num, rfl, rfl, rfl, HT4.out.drew, fun h => ⟨rfl, fun i v hv => by obtain ⟨b, o, e, h1, h2⟩ := HRw.out i v hv; exact ⟨b, o, e, h1, h2⟩, fun a ha _ => by have := HA3.out a ha; have := HG2.out; omega⟩, HKw.out.drew⟩
      · have kb0 : (x.kind == 0) = false := by simp [k0]
        have HKb : Hid (Keep Zero w (wo.alloc (.cells #[.int .i64 x.kind, .bool x.on, .slice x.A x.ys.length x.c] 31))) := Lib.hid (HK.out.alloc _)
        have HKr : Hid (Keep Zero wo (wo.alloc (.cells #[.int .i64 x.kind, .bool x.on, .slice x.A x.ys.length x.c] 31))) := Lib.hid ((Keep.refl _ _).alloc _)
        have HTb := Lib.hid (HT.out.alloc (.cells #[.int .i64 x.kind, .bool x.on, .slice x.A x.ys.length x.c] 31))
        have HBb : Hid (Blk (wo.alloc (.cells #[.int .i64 x.kind, .bool x.on, .slice x.A x.ys.length x.c] 31)) wo.heap.size #[.int .i64 x.kind, .bool x.on, .slice x.A x.ys.length x.c] 31) := Lib.hid (Blk.new _ _ _)
        have HTl := Lib.hid HT.out.lt
        by_cases k1 : x.kind = 1
        · have kb1 : (x.kind == 1) = true := by simp [k1]
          have kb2 : (x.kind == 2) = false := by simp [k1]
          clear k0 k1
          cases on with
          | true =>
            cases has with
            | true =>
              go_wp2_with fail
              refine (TSync_any HTb.out).mono ?_
              rintro e w3 ⟨he, ht3, hk3⟩
              obtain rfl : e = .returned (.tuple #[.slice A' n' c', .bool true]) := he
              have HT3 : Hid (IsTk w3 g ⟨t, true, none, 0, 0, false⟩) := Lib.hid ht3
              have HK3 := Lib.hid (HKb.out.trans hk3 (fun i hi => .inr (by have := HG.out; unfold Own.One at hi; omega)))
              have hw := HW.out (by trivial)
              have hr1 : Sem.run Try.prog (convert 29 9 (.slice A' n' c')) w3 = .ok (.string (str xs)) w3 := run_str under29 under5 under9 (hw.row.keep ((HKr.out.mono (S' := Own.One g) (fun i hi => hi.elim)).trans hk3 (fun i hi => .inl hi)) (fun a ha hn e => hw.far a ha hn e)) _ hw.len
              clear hw ht3 hk3
              go_wp2_with fail
              go_roundg (l.length - (j + 1))
              case measure => rw [HM.out]; omega
              case rel => exact ⟨j + 1, true, false, _, _, _, xs, hlt, rfl, by go_num, rfl, rfl, rfl, HT3.out, (fun h => by cases h), HK3.out⟩
            | false =>
              go_wp2_with fail
              refine (TSync_any HTb.out).mono ?_
              rintro e w3 ⟨he, ht3, hk3⟩
              obtain rfl : e = .returned (.tuple #[.slice none 0 0, .bool false]) := he
              have HT3 : Hid (IsTk w3 g ⟨t, true, A', n', c', false⟩) := Lib.hid ht3
              have HK3 := Lib.hid (HKb.out.trans hk3 (fun i hi => .inr (by have := HG.out; unfold Own.One at hi; omega)))
              clear ht3 hk3
              go_wp2_with fail
              go_roundg (l.length - (j + 1))
              case measure => rw [HM.out]; omega
              case rel => exact ⟨j + 1, true, false, _, _, _, xs, hlt, rfl, by go_num, rfl, rfl, rfl, HT3.out, (fun h => by cases h), HK3.out⟩
          | false =>
            cases has with
            | true =>
              go_wp2_with fail
              refine (TSync_any HTb.out).mono ?_
              rintro e w3 ⟨he, ht3, hk3⟩
              obtain rfl : e = .returned (.tuple #[.slice none 0 0, .bool false]) := he
              have HT3 : Hid (IsTk w3 g ⟨t, false, A', n', c', true⟩) := Lib.hid ht3
              have HK3 := Lib.hid (HKb.out.trans hk3 (fun i hi => .inr (by have := HG.out; unfold Own.One at hi; omega)))
              have HK3r := Lib.hid ((HKr.out.mono (fun i hi => hi.elim)).trans hk3 (fun i hi => .inl hi))
              clear ht3 hk3
              go_wp2_with fail
              go_roundg (l.length - (j + 1))
              case measure => rw [HM.out]; omega
              case rel => exact ⟨j + 1, false, true, _, _, _, xs, hlt, rfl, by go_num, rfl, rfl, rfl, HT3.out, (fun _ => (HW.out (by trivial)).keep HK3r.out (fun i hi => by unfold Own.One at hi; omega)), HK3.out⟩
            | false =>
              go_wp2_with fail
              refine (TSync_any HTb.out).mono ?_
              rintro e w3 ⟨he, ht3, hk3⟩
              obtain rfl : e = .returned (.tuple #[.slice none 0 0, .bool false]) := he
              have HT3 : Hid (IsTk w3 g ⟨t, false, A', n', c', false⟩) := Lib.hid ht3
              have HK3 := Lib.hid (HKb.out.trans hk3 (fun i hi => .inr (by have := HG.out; unfold Own.One at hi; omega)))
              clear ht3 hk3
              go_wp2_with fail
              go_roundg (l.length - (j + 1))
              case measure => rw [HM.out]; omega
              case rel => exact ⟨j + 1, false, false, _, _, _, xs, hlt, rfl, by go_num, rfl, rfl, rfl, HT3.out, (fun h => by cases h), HK3.out⟩
        · have kb1 : (x.kind == 1) = false := by simp [k1]
          by_cases k2 : x.kind = 2
          · have kb2 : (x.kind == 2) = true := by simp [k2]
            clear k0 k1 k2
            cases hxo : x.on with
            | true =>
              rw [hxo] at z1 HTb HKb HKr HBb
              cases on with
              | true =>
                go_wp2_with fail
                refine (TStart_any HTb.out true).mono ?_
                rintro e w3 ⟨rfl, ht3, hk3⟩
                have HT3 : Hid (IsTk w3 g ⟨t, true, A', n', c', has⟩) := Lib.hid ht3
                have HK3 := Lib.hid (HKb.out.trans hk3 (fun i hi => .inr (by have := HG.out; unfold Own.One at hi; omega)))
                have HK3r := Lib.hid ((HKr.out.mono (fun i hi => hi.elim)).trans hk3 (fun i hi => .inl hi))
                have e2 := (HBb.out.keep hk3 (fun e => by have := HTl.out; have e' : wo.heap.size = g := e; omega)).cell 1
                clear ht3 hk3
                go_wp2_with fail
                go_roundg (l.length - (j + 1))
                case measure => rw [HM.out]; omega
                case rel => exact ⟨j + 1, true, has, _, _, _, xs, hlt, rfl, by go_num, rfl, rfl, rfl, HT3.out, (fun h => (HW.out h).keep HK3r.out (fun i hi => by unfold Own.One at hi; omega)), HK3.out⟩
              | false =>
                go_wp2_with fail
                refine (TStart_any HTb.out true).mono ?_
                rintro e w3 ⟨rfl, ht3, hk3⟩
                have HT3 : Hid (IsTk w3 g ⟨t, true, none, 0, 0, false⟩) := Lib.hid ht3
                have HK3 := Lib.hid (HKb.out.trans hk3 (fun i hi => .inr (by have := HG.out; unfold Own.One at hi; omega)))
                have HK3r := Lib.hid ((HKr.out.mono (fun i hi => hi.elim)).trans hk3 (fun i hi => .inl hi))
                have e2 := (HBb.out.keep hk3 (fun e => by have := HTl.out; have e' : wo.heap.size = g := e; omega)).cell 1
                clear ht3 hk3
                go_wp2_with fail
                go_roundg (l.length - (j + 1))
                case measure => rw [HM.out]; omega
                case rel => exact ⟨j + 1, true, false, _, _, _, xs, hlt, rfl, by go_num, rfl, rfl, rfl, HT3.out, (fun h => by cases h), HK3.out⟩
            | false =>
              rw [hxo] at z1 HTb HKb HKr HBb
              cases on with
              | true =>
                go_wp2_with fail
                refine (TStart_any HTb.out false).mono ?_
                rintro e w3 ⟨rfl, ht3, hk3⟩
                have HT3 : Hid (IsTk w3 g ⟨t, false, A', n', c', has⟩) := Lib.hid ht3
                have HK3 := Lib.hid (HKb.out.trans hk3 (fun i hi => .inr (by have := HG.out; unfold Own.One at hi; omega)))
                have HK3r := Lib.hid ((HKr.out.mono (fun i hi => hi.elim)).trans hk3 (fun i hi => .inl hi))
                have e2 := (HBb.out.keep hk3 (fun e => by have := HTl.out; have e' : wo.heap.size = g := e; omega)).cell 1
                clear ht3 hk3
                go_wp2_with fail
                go_roundg (l.length - (j + 1))
                case measure => rw [HM.out]; omega
                case rel => exact ⟨j + 1, false, has, _, _, _, xs, hlt, rfl, by go_num, rfl, rfl, rfl, HT3.out, (fun h => (HW.out h).keep HK3r.out (fun i hi => by unfold Own.One at hi; omega)), HK3.out⟩
              | false =>
                go_wp2_with fail
                refine (TStart_any HTb.out false).mono ?_
                rintro e w3 ⟨rfl, ht3, hk3⟩
                have HT3 : Hid (IsTk w3 g ⟨t, false, A', n', c', has⟩) := Lib.hid ht3
                have HK3 := Lib.hid (HKb.out.trans hk3 (fun i hi => .inr (by have := HG.out; unfold Own.One at hi; omega)))
                have HK3r := Lib.hid ((HKr.out.mono (fun i hi => hi.elim)).trans hk3 (fun i hi => .inl hi))
                have e2 := (HBb.out.keep hk3 (fun e => by have := HTl.out; have e' : wo.heap.size = g := e; omega)).cell 1
                clear ht3 hk3
                go_wp2_with fail
                go_roundg (l.length - (j + 1))
                case measure => rw [HM.out]; omega
                case rel => exact ⟨j + 1, false, has, _, _, _, xs, hlt, rfl, by go_num, rfl, rfl, rfl, HT3.out, (fun h => (HW.out h).keep HK3r.out (fun i hi => by unfold Own.One at hi; omega)), HK3.out⟩
          · have kb2 : (x.kind == 2) = false := by simp [k2]
            clear k0 k1 k2
            go_wp2_with fail
            go_roundg (l.length - (j + 1))
            case measure => rw [HM.out]; omega
            case rel => exact ⟨j + 1, on, has, _, _, _, xs, hlt, rfl, by go_num, rfl, rfl, rfl, HTb.out, (fun h => (HW.out h).keep HKr.out (fun i hi => hi.elim)), HKb.out⟩
    · have h1 : ¬ (j : Int) < (l.length : Int) := by omega
      clear hlt
      go_wp2_with ((with_reducible refine (lives_any _).mono ?_); rintro e w' ⟨rfl, hk⟩)
      go_ret
      rename_i hk
      exact ⟨rfl, HK.out.trans hk.out (fun i hi => hi.elim)⟩
end Go.Proofs.Ytcgnkabblmoboaa.Pdo
