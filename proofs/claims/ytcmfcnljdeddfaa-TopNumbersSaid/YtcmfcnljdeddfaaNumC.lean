/- What a slave does of a command. -/
import Derived.Test.YtcmfcnljdeddfaaNumB
namespace Go.Proofs.Ytcmfcnljdeddfaa.Num
open Go.RowKit Go.Proofs.Ytcmfcnljdeddfaa.Own Go.Proofs.Ytcmfcnljdeddfaa.Crc
set_option maxRecDepth 100000 in
set_option maxHeartbeats 2000000 in
theorem configures_17 {w : World} {g : Nat} {s : Sl} (h : IsSl w g s) (f : Fr) (hc : f.c = 17) (h1 : 1 ≤ f.b1) (h2 : f.b1 ≤ 127) : Calls Try.prog 42 #[.pointer (some ⟨g, 0, none⟩), f.v] w (AnsPost w g true { s with pid := f.b1 }) := by
  obtain ⟨c4, c6, c8, c10, f4, f6, f8, f10, gl⟩ := h.facts
  have H := Lib.hid h
  obtain ⟨c, b1, b2, b3, b4, b5, b6, b7⟩ := f
  simp only at hc h1 h2
  subst hc
  have hb1 : (b1 != 255) = true := by simp; omega
  have hb2 : decide (b1 < 1) = false := by simp; omega
  have hb3 : decide (127 < b1) = false := by simp; omega
  have hb4 : (b1 == 255) = false := by simp; omega
  clear h
  simp only [Fr.v, Fr.cells]
  go_enter Try.func42, Try.ntmps42
  go_wp2_with fail
  refine (told_any _ 17 0 (by decide) (by decide)).mono ?_
  rintro e w1 ⟨rfl, hk⟩
  have HB1 : Hid (Blk w1 (w.heap.size + 1) #[.int .u8 0, .int .u8 0, .int .u8 0, .int .u8 0, .int .u8 0, .int .u8 0, .int .u8 0, .int .u8 0] 95) := Lib.hid (Blk.keep (by
    repeat (first | (with_reducible first | apply Blk.drewN | apply Blk.far _ (by simp; omega)) | exact Blk.at_ (by simp) | (with_reducible apply Blk.alloc))) hk.out id)
  have HK1 : Hid (Keep (Own.One g) w w1) := Lib.hid (Keep.trans (S := Own.One g) (by repeat (with_reducible first | exact Keep.refl _ _ | apply Keep.set1 | apply Keep.drewN | apply Keep.alloc)) hk.out (fun _ hi => hi.elim))
  have HS1 : Hid (IsSl w1 g { s with pid := b1 }) := Lib.hid (Blk.keep (by
    apply Blk.cast
    · repeat (first | (with_reducible first | apply Blk.set | apply Blk.drewN | apply Blk.alloc) | exact H.out)
    · simp [Sl.cells]) hk.out id)
  clear hk c4 c6 c8 c10 f4 f6 f8 f10
  have z0 := (HB1.out).cell 0
  have z1 := (HB1.out).cell 1
  have z2 := (HB1.out).cell 2
  have z3 := (HB1.out).cell 3
  have z4 := (HB1.out).cell 4
  have z5 := (HB1.out).cell 5
  have z6 := (HB1.out).cell 6
  have z7 := (HB1.out).cell 7
  have zf0 := (HB1.out).frozen 0
  have zf1 := (HB1.out).frozen 1
  have zf2 := (HB1.out).frozen 2
  have zf3 := (HB1.out).frozen 3
  have zf4 := (HB1.out).frozen 4
  have zf5 := (HB1.out).frozen 5
  have zf6 := (HB1.out).frozen 6
  have zf7 := (HB1.out).frozen 7
  simp only [List.getElem?_toArray, List.getElem?_cons_zero, List.getElem?_cons_succ] at z0 z1 z2 z3 z4 z5 z6 z7
  have l1 := HB1.out.lt
  simp only [Fr.v, Fr.cells]
  go_wp2_with fail
  refine bodyPost_ret (v := .tuple #[Fr.v (ordF 17 0), .bool true]) (results_row (p := 4) (u := 5) rfl _ _ (w.heap.size + 1) (ordF 17 0) rfl (blk8 HB1.out _ _ _ _ _ _ _ _) _ _ rfl rfl) rfl ?_
  refine ⟨ordF 17 0, rfl, Lib.hid ⟨?_, keep8 HK1.out (.inr (by omega)) _ _ _ _ _ _ _ _⟩⟩
  exact HS1.out.keep (keep8 (Keep.refl (Own.One (w.heap.size + 1)) w1) (.inl rfl) _ _ _ _ _ _ _ _) (fun e => by have e' : g = w.heap.size + 1 := e; omega)
/-- None that is asked: it is not meant. -/
def Sl.free (s : Sl) : Bool := s.uid == 0 && s.pid == 0
set_option maxRecDepth 100000 in
set_option maxHeartbeats 2000000 in
theorem Take_none {w : World} {g : Nat} {s : Sl} (h : IsSl w g s) (f : Fr) (hm : s.mode = 0) (hc : f.c = 17 ∨ (f.c = 81 ∧ s.free = false)) : Calls Try.prog 35 #[.pointer (some ⟨g, 0, none⟩), f.v] w (AnsPost w g false s) := by
  obtain ⟨c4, c6, c8, c10, f4, f6, f8, f10, gl⟩ := h.facts
  have H := Lib.hid h
  obtain ⟨c, b1, b2, b3, b4, b5, b6, b7⟩ := f
  simp only at hc
  rw [hm] at c8
  clear h hm
  have hp : (s.uid == 0) = false ∨ ((s.uid == 0) = true ∧ (s.pid == 0) = false) ∨ ((s.uid == 0) = true ∧ (s.pid == 0) = true ∧ c = 17) := by
    unfold Sl.free at hc
    rcases hu : (s.uid == 0) <;> rcases hp : (s.pid == 0) <;> simp_all
  have hcc : c = 17 ∨ c = 81 := hc.imp_right And.left
  clear hc
  simp only [Fr.v, Fr.cells]
  rcases hp with hu | ⟨hu, hp⟩ | ⟨hu, hp, rfl⟩
  case' inl => rcases hcc with rfl | rfl
  case' inr.inl => rcases hcc with rfl | rfl
  case' inr.inr => clear hcc
  all_goals
    go_enter Try.func35, Try.ntmps35
    go_wp2_with fail
    refine bodyPost_ret (v := .tuple #[Fr.v zF, .bool false]) (results_row (p := 4) (u := 5) rfl _ _ (w.heap.size + 1) zF rfl (Blk.at_ (by simp)) _ _ rfl rfl) rfl ?_
    exact ⟨zF, rfl, Lib.hid ⟨H.out.keep (((Keep.refl Own.Zero _).alloc _).alloc _) id, ((Keep.refl _ _).alloc _).alloc _⟩⟩
/-- What a slave does: it is not asked, it is looked for, it is given a number, it waits. -/
def scanF (f : Fr) (s : Sl) : Bool × Sl :=
  if f.b5 = 128 then (true, { s with looks := 0 })
  else if f.b6 = s.looks ∧ s.A f.b6.toNat / 2 ^ f.b5.toNat = f.num / 2 ^ f.b5.toNat then (true, if f.b5 = 0 then nextF s f.b6 f.b7 else s)
  else (false, s)
def takeF (f : Fr) (s : Sl) : Bool × Sl :=
  if f.c = 4 then (false, s.wait)
  else if f.c = 17 then (if s.mode = 1 then (true, { s with pid := f.b1 }) else (false, s))
  else if s.free then scanF f s else (false, s)
def Can (f : Fr) (s : Sl) : Prop :=
  (f.c = 4 ∧ f.b1 = 0) ∨ (f.c = 17 ∧ 1 ≤ f.b1 ∧ f.b1 ≤ 127 ∧ (s.mode = 0 ∨ s.mode = 1)) ∨ (f.c = 81 ∧ s.mode = 0 ∧ (f.b5 = 128 ∨ (f.b5 ≤ 31 ∧ f.b6 ≤ 3 ∧ f.b7 ≤ 3)))
theorem scans_any {w : World} {g : Nat} {s : Sl} (h : IsSl w g s) (hw : s.wf) (f : Fr) (hf : f.wf) (hc : f.b5 = 128 ∨ (f.b5 ≤ 31 ∧ f.b6 ≤ 3 ∧ f.b7 ≤ 3)) : Calls Try.prog 41 #[.pointer (some ⟨g, 0, none⟩), f.v] w (AnsPost w g (scanF f s).1 (scanF f s).2) := by
  by_cases h5 : f.b5 = 128
  · have e : scanF f s = (true, { s with looks := 0 }) := if_pos h5
    rw [e]
    exact scans_anew h f h5 hf
  · obtain ⟨k5, k6, k7⟩ := hc.resolve_left h5
    have hb0 := hf.b5.1
    by_cases hp : f.b6 = s.looks
    · by_cases hm : s.A f.b6.toNat / 2 ^ f.b5.toNat = f.num / 2 ^ f.b5.toNat
      · by_cases h0 : f.b5 = 0
        · have e : scanF f s = (true, nextF s f.b6 f.b7) := by
            unfold scanF
            rw [if_neg h5, if_pos ⟨hp, hm⟩, if_pos h0]
          rw [e]
          exact scans_zero h hw f k5 hf hp k6 k7 f.b5.toNat (by omega) (by omega) hm
        · have e : scanF f s = (true, s) := by
            unfold scanF
            rw [if_neg h5, if_pos ⟨hp, hm⟩, if_neg h0]
          rw [e]
          exact scans_yes h hw f k5 hf hp k6 k7 f.b5.toNat (by omega) (by omega) hm
      · have e : scanF f s = (false, s) := by
          unfold scanF
          rw [if_neg h5, if_neg (fun k => hm k.2)]
        rw [e]
        exact scans_no h hw f k5 hf hp k6 k7 f.b5.toNat (by omega) hm
    · have e : scanF f s = (false, s) := by
        unfold scanF
        rw [if_neg h5, if_neg (fun k => hp k.1)]
      rw [e]
      exact scans_part h f k5 hf hp
set_option maxRecDepth 100000 in
set_option maxHeartbeats 2000000 in
theorem Take_scan {w : World} {g : Nat} {s : Sl} (h : IsSl w g s) (hw : s.wf) (f : Fr) (hf : f.wf) (hm : s.mode = 0) (hc : f.c = 81) (hs : s.free = true) (hx : f.b5 = 128 ∨ (f.b5 ≤ 31 ∧ f.b6 ≤ 3 ∧ f.b7 ≤ 3)) (r : Bool × Sl) (hr : r = scanF f s) :
    Calls Try.prog 35 #[.pointer (some ⟨g, 0, none⟩), f.v] w (AnsPost w g r.1 r.2) := by
  obtain ⟨c4, c6, c8, c10, f4, f6, f8, f10, gl⟩ := h.facts
  have H := Lib.hid h
  have HX : Hid (∀ w', IsSl w' g s → Calls Try.prog 41 #[.pointer (some ⟨g, 0, none⟩), f.v] w' (AnsPost w' g r.1 r.2)) := Lib.hid (fun w' h' => by
    rw [hr]
    exact scans_any h' hw f hf hx)
  rw [hm] at c8
  have hu : (s.uid == 0) = true := by unfold Sl.free at hs; simp_all
  have hp : (s.pid == 0) = true := by unfold Sl.free at hs; simp_all
  obtain ⟨r1, r2⟩ := r
  obtain ⟨c, b1, b2, b3, b4, b5, b6, b7⟩ := f
  simp only at hc
  subst hc
  clear h hm hw hf hs hx hr
  simp only [Fr.v, Fr.cells] at HX ⊢
  go_enter Try.func35, Try.ntmps35
  go_wp2_with fail
  refine (HX.out _ (H.out.keep (((Keep.refl Own.Zero _).alloc _).alloc _) id)).mono ?_
  clear HX
  rintro e w1 ⟨fa, rfl, hp⟩
  have HB1 : Hid (Blk w1 (w.heap.size + 1) #[.int .u8 0, .int .u8 0, .int .u8 0, .int .u8 0, .int .u8 0, .int .u8 0, .int .u8 0, .int .u8 0] 95) := Lib.hid (Blk.keep (Blk.at_ (by simp)) hp.out.2 (fun e => by have e' : w.heap.size + 1 = g := e; omega))
  have HK1 : Hid (Keep (Own.One g) w w1) := Lib.hid (Keep.trans (S := Own.One g) (((Keep.refl _ _).alloc _).alloc _) hp.out.2 (fun _ hi => .inl hi))
  have HS1 := Lib.hid hp.out.1
  clear hp c4 c6 c8 c10 f4 f6 f8 f10
  have z0 := (HB1.out).cell 0
  have z1 := (HB1.out).cell 1
  have z2 := (HB1.out).cell 2
  have z3 := (HB1.out).cell 3
  have z4 := (HB1.out).cell 4
  have z5 := (HB1.out).cell 5
  have z6 := (HB1.out).cell 6
  have z7 := (HB1.out).cell 7
  have zf0 := (HB1.out).frozen 0
  have zf1 := (HB1.out).frozen 1
  have zf2 := (HB1.out).frozen 2
  have zf3 := (HB1.out).frozen 3
  have zf4 := (HB1.out).frozen 4
  have zf5 := (HB1.out).frozen 5
  have zf6 := (HB1.out).frozen 6
  have zf7 := (HB1.out).frozen 7
  simp only [List.getElem?_toArray, List.getElem?_cons_zero, List.getElem?_cons_succ] at z0 z1 z2 z3 z4 z5 z6 z7
  have l1 := HB1.out.lt
  simp only [Fr.v, Fr.cells]
  go_wp2_with fail
  refine bodyPost_ret (v := .tuple #[Fr.v fa, .bool r1]) (results_row (p := 4) (u := 5) rfl _ _ (w.heap.size + 1) fa rfl (blk8 HB1.out _ _ _ _ _ _ _ _) _ _ rfl rfl) rfl ?_
  refine ⟨fa, rfl, Lib.hid ⟨?_, keep8 HK1.out (.inr (by omega)) _ _ _ _ _ _ _ _⟩⟩
  exact HS1.out.keep (keep8 (Keep.refl (Own.One (w.heap.size + 1)) w1) (.inl rfl) _ _ _ _ _ _ _ _) (fun e => by have e' : g = w.heap.size + 1 := e; omega)
set_option maxRecDepth 100000 in
set_option maxHeartbeats 2000000 in
theorem Take_17 {w : World} {g : Nat} {s : Sl} (h : IsSl w g s) (f : Fr) (hm : s.mode = 1) (hc : f.c = 17) (h1 : 1 ≤ f.b1) (h2 : f.b1 ≤ 127) :
    Calls Try.prog 35 #[.pointer (some ⟨g, 0, none⟩), f.v] w (AnsPost w g true { s with pid := f.b1 }) := by
  obtain ⟨c4, c6, c8, c10, f4, f6, f8, f10, gl⟩ := h.facts
  have H := Lib.hid h
  have HX : Hid (∀ w', IsSl w' g s → Calls Try.prog 42 #[.pointer (some ⟨g, 0, none⟩), f.v] w' (AnsPost w' g true { s with pid := f.b1 })) := Lib.hid (fun w' h' => configures_17 h' f hc h1 h2)
  rw [hm] at c8
  obtain ⟨c, b1, b2, b3, b4, b5, b6, b7⟩ := f
  simp only at hc
  subst hc
  have hp : (s.uid == 0) = false ∨ ((s.uid == 0) = true ∧ (s.pid == 0) = false) ∨ ((s.uid == 0) = true ∧ (s.pid == 0) = true) := by
    rcases hu : (s.uid == 0) <;> rcases hp : (s.pid == 0) <;> simp
  clear h hm h1 h2
  simp only [Fr.v, Fr.cells] at HX ⊢
  rcases hp with hu | ⟨hu, hp⟩ | ⟨hu, hp⟩
  all_goals
    go_enter Try.func35, Try.ntmps35
    go_wp2_with fail
    refine (HX.out _ (H.out.keep (((Keep.refl Own.Zero _).alloc _).alloc _) id)).mono ?_
    clear HX
    rintro e w1 ⟨fa, rfl, hp⟩
    have HB1 : Hid (Blk w1 (w.heap.size + 1) #[.int .u8 0, .int .u8 0, .int .u8 0, .int .u8 0, .int .u8 0, .int .u8 0, .int .u8 0, .int .u8 0] 95) := Lib.hid (Blk.keep (Blk.at_ (by simp)) hp.out.2 (fun e => by have e' : w.heap.size + 1 = g := e; omega))
    have HK1 : Hid (Keep (Own.One g) w w1) := Lib.hid (Keep.trans (S := Own.One g) (((Keep.refl _ _).alloc _).alloc _) hp.out.2 (fun _ hi => .inl hi))
    have HS1 := Lib.hid hp.out.1
    clear hp c4 c6 c8 c10 f4 f6 f8 f10
    have z0 := (HB1.out).cell 0
    have z1 := (HB1.out).cell 1
    have z2 := (HB1.out).cell 2
    have z3 := (HB1.out).cell 3
    have z4 := (HB1.out).cell 4
    have z5 := (HB1.out).cell 5
    have z6 := (HB1.out).cell 6
    have z7 := (HB1.out).cell 7
    have zf0 := (HB1.out).frozen 0
    have zf1 := (HB1.out).frozen 1
    have zf2 := (HB1.out).frozen 2
    have zf3 := (HB1.out).frozen 3
    have zf4 := (HB1.out).frozen 4
    have zf5 := (HB1.out).frozen 5
    have zf6 := (HB1.out).frozen 6
    have zf7 := (HB1.out).frozen 7
    simp only [List.getElem?_toArray, List.getElem?_cons_zero, List.getElem?_cons_succ] at z0 z1 z2 z3 z4 z5 z6 z7
    have l1 := HB1.out.lt
    simp only [Fr.v, Fr.cells]
    go_wp2_with fail
    refine bodyPost_ret (v := .tuple #[Fr.v fa, .bool true]) (results_row (p := 4) (u := 5) rfl _ _ (w.heap.size + 1) fa rfl (blk8 HB1.out _ _ _ _ _ _ _ _) _ _ rfl rfl) rfl ?_
    refine ⟨fa, rfl, Lib.hid ⟨?_, keep8 HK1.out (.inr (by omega)) _ _ _ _ _ _ _ _⟩⟩
    exact HS1.out.keep (keep8 (Keep.refl (Own.One (w.heap.size + 1)) w1) (.inl rfl) _ _ _ _ _ _ _ _) (fun e => by have e' : g = w.heap.size + 1 := e; omega)
set_option maxRecDepth 100000 in
set_option maxHeartbeats 2000000 in
theorem Take_4 {w : World} {g : Nat} {s : Sl} (h : IsSl w g s) (f : Fr) (hc : f.c = 4) (h1 : f.b1 = 0) :
    Calls Try.prog 35 #[.pointer (some ⟨g, 0, none⟩), f.v] w (AnsPost w g false s.wait) := by
  obtain ⟨c4, c6, c8, c10, f4, f6, f8, f10, gl⟩ := h.facts
  have H := Lib.hid h
  obtain ⟨c, b1, b2, b3, b4, b5, b6, b7⟩ := f
  simp only at hc h1
  subst hc h1
  have hp : (s.uid == 0) = false ∨ ((s.uid == 0) = true ∧ (s.pid == 0) = false) ∨ ((s.uid == 0) = true ∧ (s.pid == 0) = true) := by
    rcases hu : (s.uid == 0) <;> rcases hp : (s.pid == 0) <;> simp
  clear h
  simp only [Fr.v, Fr.cells]
  rcases hp with hu | ⟨hu, hp⟩ | ⟨hu, hp⟩
  all_goals
    go_enter Try.func35, Try.ntmps35
    go_wp2_with fail
    refine (switches_0 (H.out.keep (((Keep.refl Own.Zero _).alloc _).alloc _) id)).mono ?_
    rintro e w1 ⟨rfl, hs, hk⟩
    have HB1 : Hid (Blk w1 (w.heap.size + 1) #[.int .u8 0, .int .u8 0, .int .u8 0, .int .u8 0, .int .u8 0, .int .u8 0, .int .u8 0, .int .u8 0] 95) := Lib.hid (Blk.keep (Blk.at_ (by simp)) hk (fun e => by have e' : w.heap.size + 1 = g := e; omega))
    have HK1 : Hid (Keep (Own.One g) w w1) := Lib.hid (Keep.trans (S := Own.One g) (((Keep.refl _ _).alloc _).alloc _) hk (fun _ hi => .inl hi))
    have HS1 := Lib.hid hs
    clear hs hk c4 c6 c8 c10 f4 f6 f8 f10
    have z0 := (HB1.out).cell 0
    have z1 := (HB1.out).cell 1
    have z2 := (HB1.out).cell 2
    have z3 := (HB1.out).cell 3
    have z4 := (HB1.out).cell 4
    have z5 := (HB1.out).cell 5
    have z6 := (HB1.out).cell 6
    have z7 := (HB1.out).cell 7
    have zf0 := (HB1.out).frozen 0
    have zf1 := (HB1.out).frozen 1
    have zf2 := (HB1.out).frozen 2
    have zf3 := (HB1.out).frozen 3
    have zf4 := (HB1.out).frozen 4
    have zf5 := (HB1.out).frozen 5
    have zf6 := (HB1.out).frozen 6
    have zf7 := (HB1.out).frozen 7
    simp only [List.getElem?_toArray, List.getElem?_cons_zero, List.getElem?_cons_succ] at z0 z1 z2 z3 z4 z5 z6 z7
    have l1 := HB1.out.lt
    go_wp2_with fail
    refine bodyPost_ret (v := .tuple #[Fr.v zF, .bool false]) (results_row (p := 4) (u := 5) rfl _ _ (w.heap.size + 1) zF rfl (blk8 HB1.out _ _ _ _ _ _ _ _) _ _ rfl rfl) rfl ?_
    refine ⟨zF, rfl, Lib.hid ⟨?_, keep8 HK1.out (.inr (by omega)) _ _ _ _ _ _ _ _⟩⟩
    exact HS1.out.keep (keep8 (Keep.refl (Own.One (w.heap.size + 1)) w1) (.inl rfl) _ _ _ _ _ _ _ _) (fun e => by have e' : g = w.heap.size + 1 := e; omega)
theorem Take_any {w : World} {g : Nat} {s : Sl} (h : IsSl w g s) (hw : s.wf) (f : Fr) (hf : f.wf) (hc : Can f s) : Calls Try.prog 35 #[.pointer (some ⟨g, 0, none⟩), f.v] w (AnsPost w g (takeF f s).1 (takeF f s).2) := by
  rcases hc with ⟨hc, h1⟩ | ⟨hc, h1, h2, hm⟩ | ⟨hc, hm, hx⟩
  · have e : takeF f s = (false, s.wait) := if_pos hc
    rw [e]
    exact Take_4 h f hc h1
  · by_cases h1' : s.mode = 1
    · have e : takeF f s = (true, { s with pid := f.b1 }) := by
        unfold takeF
        rw [if_neg (by omega), if_pos hc, if_pos h1']
      rw [e]
      exact Take_17 h f h1' hc h1 h2
    · have e : takeF f s = (false, s) := by
        unfold takeF
        rw [if_neg (by omega), if_pos hc, if_neg h1']
      rw [e]
      exact Take_none h f (hm.resolve_right h1') (.inl hc)
  · rcases hs : s.free
    · have e : takeF f s = (false, s) := by
        unfold takeF
        rw [if_neg (by omega), if_neg (by omega), hs]
        rfl
      rw [e]
      exact Take_none h f hm (.inr ⟨hc, hs⟩)
    · exact Take_scan h hw f hf hm hc hs hx _ (by
        unfold takeF
        rw [if_neg (by omega), if_neg (by omega), hs]
        rfl)
end Go.Proofs.Ytcmfcnljdeddfaa.Num
