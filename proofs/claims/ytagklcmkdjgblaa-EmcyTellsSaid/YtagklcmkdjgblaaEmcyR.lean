/- What the document's teller does with its frames. -/
import Derived.Test.YtagklcmkdjgblaaEmcyQ
namespace Go.Proofs.Ytagklcmkdjgblaa.Emcy
open Go.RowKit Go.Proofs.Ytagklcmkdjgblaa.Own
section
variable {P : Program} {w : World} {ops : Array Oper} {rest : List Oper} {o : Oper} {a : Act} {K : Act → World → Prop} {Q : Exit → Act → World → Prop}
/-- append(v, row...), at a step of a region that draws; the row may be nil. -/
theorem step_appN {E : Prop} (hgd : o.guard = none) (s x : Operand) (t : TypeId)
    (ho : o.op = .call { callee := .builtin .append, args := #[s, x], argTypes := #[t, t] })
    (e : TypeId) (z : Value) (size bytes : Nat) (ht : P.underlying t = some (.slice e)) (hi : (P.info? e).map (fun i => (i.zero, i.size, i.bytes)) = some (some z, size, bytes))
    (hzs : z.cells.size = size) (hsz : 0 < size)
    (v : Value) (n : Nat) (xs : List Value) (hs : a.eval s = v) (hown : w.ownsRow 0 e size v n xs)
    (A : Option Addr) (m c : Nat) (news : List Value) (hx : a.eval x = .slice A m c) (hl : news.length = m * size) (hnil : A = none → c = 0) (hnews : Row w A news) (h1 : ∀ u ∈ news, u.oneCell' = true)
    (h63 : n + m ≤ maxLen) (hbytes : (n + m) * bytes ≤ 140737488355328)
    (h : ∀ v' w', w'.ownsRow 0 e size v' (n + m) (xs ++ news) → w.grownBy w' v.ownBlock → Fresh w v v' → K (a.put o.dst v') w') :
    if Region.wanted o (yielded ops a.tmps) = true then Oper.wp P o a w K Q else E := by
  rcases A with _ | A
  · have h0 : news = [] := by
      rcases news with _ | ⟨u, r⟩
      · rfl
      · obtain ⟨b, o, e, _⟩ := hnews 0 u rfl
        cases e
    subst h0
    obtain rfl : m = 0 := by
      rcases Nat.eq_zero_or_pos m with h0 | h0
      · exact h0
      · have := Nat.mul_pos h0 hsz
        simp at hl
        omega
    rw [hnil rfl] at hx
    obtain ⟨i, hi0, hz, hsize, hby⟩ := info_parts hi
    have hrun := run_append_owned_none (P := P) (w := w) 0 t o.type e i size ht hi0 v n xs hown
    rw [if_pos (by simp [Region.wanted, hgd])]
    unfold Oper.wp
    simp [execOp, ho, resolve, invoke, builtin, hs, hx, hrun, Result.andThen]
    exact h v w (by simpa using hown) (World.grownBy.refl w _) (fun k hk => .inl hk)
  · exact step_appF hgd s x t ho e z size bytes ht hi hzs hsz v n xs hs hown A m c news hx hl hnews h1 h63 hbytes h
end
theorem own_none {w : World} {g : Nat} {e : TypeId} (size : Nat) (h : Blk w g #[] e) : w.ownsRow 0 e size (.slice (some ⟨g, 0, none⟩) 0 0) 0 [] :=
  ⟨by simp, .inr ⟨g, 0, #[], rfl, Nat.zero_le _, h, Nat.le_refl _, Nat.zero_le _, by simp, by simp⟩⟩
theorem keep_new {w w1 : World} {g n c : Nat} (h : w.grownBy w1 (Value.slice (some ⟨g, 0, none⟩) n c).ownBlock) : Keep (Own.One g) w w1 :=
  keep_of_grown h (fun k hk => by simp only [Value.ownBlock, Option.some.injEq] at hk; exact hk.symm)
set_option maxRecDepth 100000 in
set_option maxHeartbeats 4000000 in
theorem Dframe_any {w : World} {D : Nat → Prop} {d : Nat} {t : Tl} (h : IsD w D d t) (hw : ∀ x ∈ t.now, x.wf) (hl : t.now.length ≤ 1000000000000000) (hf : t.fr.length ≤ 16) (c : Int) (c0 : 0 ≤ c) (c1 : c ≤ 65535) (x : Ex) :
    Calls Try.prog 32 #[.pointer (some ⟨d, 0, none⟩), .int .u16 c, x.v] w (DPost w D d (.tuple #[]) (t.tells c x)) := by
  obtain ⟨An, cn, Ah, ch, Af, cf, h⟩ := h
  obtain ⟨n, hn⟩ : ∃ n, n = t.fr.length := ⟨_, rfl⟩
  have hgc : w.cell? ⟨d, 5, none⟩ = some (.slice Af n cf) := by rw [hn]; exact h.blk.cell 5
  have glt := h.blk.lt
  have H := Lib.hid h
  have HW := Lib.hid hw
  have HN := Lib.hid hn
  rw [← hn] at hf
  unfold Ex.v
  by_cases hn16 : n < 16
  · have HE : Hid (t.tells c x = { t with fr := t.fr ++ [frameF c (regF t.now) x] }) := Lib.hid (by unfold Tl.tells; rw [← hn, if_pos hn16])
    rw [HE.out]
    have hi16 : (n : Int) < 16 := by omega
    obtain ⟨r, hr⟩ : ∃ r, r = regF t.now := ⟨_, rfl⟩
    have HR := Lib.hid hr
    have hm1 : c.tmod 256 = c % 256 := Int.tmod_eq_emod_of_nonneg c0
    have hm2 : c.tdiv 256 = c / 256 := Int.tdiv_eq_ediv_of_nonneg c0
    have HNl : Hid ((flatF t.fr).length = n * 8) := Lib.hid (by rw [flatF_length, hn])
    clear h hw hn hn16 hr
    go_enter Try.func32, Try.ntmps32
    go_wp2_with fail
    obtain ⟨X, hX⟩ : ∃ X, X = w.alloc (.cells #[.int .u8 x.x0, .int .u8 x.x1, .int .u8 x.x2, .int .u8 x.x3, .int .u8 x.x4] 31) := ⟨_, rfl⟩
    have HKX : Hid (Keep Zero w X) := Lib.hid (by rw [hX]; exact (Keep.refl Zero w).alloc _)
    have HBX : Hid (Blk X w.heap.size x.cells.toArray 31) := Lib.hid (by rw [hX]; exact Blk.new w x.cells.toArray 31)
    have HSf : Hid (∀ w', Keep Zero X w' → w'.cell? ⟨d, 5, none⟩ = some (.slice Af n cf) ∧ w'.cell? ⟨w.heap.size, 0, none⟩ = some (.int .u8 x.x0) ∧ w'.cell? ⟨w.heap.size, 1, none⟩ = some (.int .u8 x.x1) ∧ w'.cell? ⟨w.heap.size, 2, none⟩ = some (.int .u8 x.x2) ∧ w'.cell? ⟨w.heap.size, 3, none⟩ = some (.int .u8 x.x3) ∧ w'.cell? ⟨w.heap.size, 4, none⟩ = some (.int .u8 x.x4)) := Lib.hid (fun w' k => by
      have hb := Blk.keep HBX.out k id
      exact ⟨((HKX.out.trans k (fun i hi => hi.elim)).cell (p := ⟨d, 5, none⟩) glt id).trans hgc, hb.cell 0, hb.cell 1, hb.cell 2, hb.cell 3, hb.cell 4⟩)
    have HDX := Lib.hid (H.out.old HKX.out)
    have gX5 : X.cell? ⟨d, 5, none⟩ = some (.slice Af n cf) := by rw [HN.out]; exact HDX.out.blk.cell 5
    have glX : d < X.heap.size := HDX.out.blk.lt
    have wlX : w.heap.size < X.heap.size := HBX.out.lt
    have HX := Lib.hid hX
    clear hX
    rw [← HX.out]
    have hw1 : IntKind.u8.wrap (c % 256) = c % 256 := by rw [IntKind.wrap_u8']; omega
    have hw2 : IntKind.u16.wrap (c / 256) = c / 256 := by rw [IntKind.wrap_u16]; omega
    have hw3 : IntKind.u8.wrap (c / 256) = c / 256 := by rw [IntKind.wrap_u8']; omega
    refine region_till (by kernel_rfl) (fun w' => w'.cell? ⟨d, 5, none⟩ = some (.slice Af n cf) ∧ w'.cell? ⟨w.heap.size, 0, none⟩ = some (.int .u8 x.x0) ∧ w'.cell? ⟨w.heap.size, 1, none⟩ = some (.int .u8 x.x1) ∧ w'.cell? ⟨w.heap.size, 2, none⟩ = some (.int .u8 x.x2) ∧ w'.cell? ⟨w.heap.size, 3, none⟩ = some (.int .u8 x.x3) ∧ w'.cell? ⟨w.heap.size, 4, none⟩ = some (.int .u8 x.x4)) 30 ?_
    have hS0 := HSf.out X.drew ((Keep.refl _ X).drew)
    refine till_take (i := 0) (v := ?_) (some 12) rfl rfl (by kernel_rfl) (by kernel_rfl) (by kernel_rfl) (by kernel_rfl) (by decide) (fun _ _ _ h => h) (by assumption) (Or.inl ⟨by rfl, ?_⟩) ?_
    rotate_left
    · intro w' hSw
      go_split_ands
      go_simp
      try with_reducible rfl
    simp only [Act.put, List.setIfInBounds_toArray, List.set_cons_zero, List.set_cons_succ]
    refine till_take (i := 2) (v := ?_) (some 14) rfl rfl (by kernel_rfl) (by kernel_rfl) (by kernel_rfl) (by kernel_rfl) (by decide) (fun _ _ _ h => h) (by assumption) (Or.inl ⟨by rfl, ?_⟩) ?_
    rotate_left
    · intro w' hSw
      go_split_ands
      go_simp
      try with_reducible rfl
    simp only [Act.put, List.setIfInBounds_toArray, List.set_cons_zero, List.set_cons_succ]
    refine till_take (i := 3) (v := ?_) (some 15) rfl rfl (by kernel_rfl) (by kernel_rfl) (by kernel_rfl) (by kernel_rfl) (by decide) (fun _ _ _ h => h) (by assumption) (Or.inl ⟨by rfl, ?_⟩) ?_
    rotate_left
    · intro w' hSw
      go_split_ands
      go_simp
      try with_reducible rfl
    simp only [Act.put, List.setIfInBounds_toArray, List.set_cons_zero, List.set_cons_succ]
    refine till_take (i := 4) (v := ?_) (some 16) rfl rfl (by kernel_rfl) (by kernel_rfl) (by kernel_rfl) (by kernel_rfl) (by decide) (fun _ _ _ h => h) (by assumption) (Or.inl ⟨by rfl, ?_⟩) ?_
    rotate_left
    · intro w' hSw
      go_split_ands
      go_simp
      try with_reducible rfl
    simp only [Act.put, List.setIfInBounds_toArray, List.set_cons_zero, List.set_cons_succ]
    refine till_take (i := 5) (v := ?_) (some 17) rfl rfl (by kernel_rfl) (by kernel_rfl) (by kernel_rfl) (by kernel_rfl) (by decide) (fun _ _ _ h => h) (by assumption) (Or.inl ⟨by rfl, ?_⟩) ?_
    rotate_left
    · intro w' hSw
      go_split_ands
      go_simp
      try with_reducible rfl
    simp only [Act.put, List.setIfInBounds_toArray, List.set_cons_zero, List.set_cons_succ]
    refine till_take (i := 7) (v := ?_) (some 19) rfl rfl (by kernel_rfl) (by kernel_rfl) (by kernel_rfl) (by kernel_rfl) (by decide) (fun _ _ _ h => h) (by assumption) (Or.inl ⟨by rfl, ?_⟩) ?_
    rotate_left
    · intro w' hSw
      go_split_ands
      go_simp
      try with_reducible rfl
    simp only [Act.put, List.setIfInBounds_toArray, List.set_cons_zero, List.set_cons_succ]
    refine till_take (i := 8) (v := ?_) (some 20) rfl rfl (by kernel_rfl) (by kernel_rfl) (by kernel_rfl) (by kernel_rfl) (by decide) (fun _ _ _ h => h) (by assumption) (Or.inl ⟨by rfl, ?_⟩) ?_
    rotate_left
    · intro w' hSw
      go_split_ands
      go_simp
      try with_reducible rfl
    simp only [Act.put, List.setIfInBounds_toArray, List.set_cons_zero, List.set_cons_succ]
    refine till_take (i := 9) (v := ?_) (some 21) rfl rfl (by kernel_rfl) (by kernel_rfl) (by kernel_rfl) (by kernel_rfl) (by decide) (fun _ _ _ h => h) (by assumption) (Or.inl ⟨by rfl, ?_⟩) ?_
    rotate_left
    · intro w' hSw
      go_split_ands
      go_simp
      try with_reducible rfl
    simp only [Act.put, List.setIfInBounds_toArray, List.set_cons_zero, List.set_cons_succ]
    refine till_take (i := 10) (v := ?_) (some 22) rfl rfl (by kernel_rfl) (by kernel_rfl) (by kernel_rfl) (by kernel_rfl) (by decide) (fun _ _ _ h => h) (by assumption) (Or.inl ⟨by rfl, ?_⟩) ?_
    rotate_left
    · intro w' hSw
      go_split_ands
      go_simp
      try with_reducible rfl
    simp only [Act.put, List.setIfInBounds_toArray, List.set_cons_zero, List.set_cons_succ]
    refine till_take (i := 11) (v := ?_) (some 23) rfl rfl (by kernel_rfl) (by kernel_rfl) (by kernel_rfl) (by kernel_rfl) (by decide) (fun _ _ _ h => h) (by assumption) (Or.inl ⟨by rfl, ?_⟩) ?_
    rotate_left
    · intro w' hSw
      go_split_ands
      go_simp
      try with_reducible rfl
    simp only [Act.put, List.setIfInBounds_toArray, List.set_cons_zero, List.set_cons_succ]
    refine till_take (i := 12) (v := ?_) (some 24) rfl rfl (by kernel_rfl) (by kernel_rfl) (by kernel_rfl) (by kernel_rfl) (by decide) (fun _ _ _ h => h) (by assumption) (Or.inl ⟨by rfl, ?_⟩) ?_
    rotate_left
    · intro w' hSw
      go_split_ands
      go_simp
      try with_reducible rfl
    simp only [Act.put, List.setIfInBounds_toArray, List.set_cons_zero, List.set_cons_succ]
    refine till_take (i := 13) (v := ?_) (some 25) rfl rfl (by kernel_rfl) (by kernel_rfl) (by kernel_rfl) (by kernel_rfl) (by decide) (fun _ _ _ h => h) (by assumption) (Or.inl ⟨by rfl, ?_⟩) ?_
    rotate_left
    · intro w' hSw
      go_split_ands
      go_simp
      try with_reducible rfl
    simp only [Act.put, List.setIfInBounds_toArray, List.set_cons_zero, List.set_cons_succ]
    refine till_take (i := 15) (v := ?_) (some 27) rfl rfl (by kernel_rfl) (by kernel_rfl) (by kernel_rfl) (by kernel_rfl) (by decide) (fun _ _ _ h => h) (by assumption) (Or.inl ⟨by rfl, ?_⟩) ?_
    rotate_left
    · intro w' hSw
      go_split_ands
      go_simp
      try with_reducible rfl
    simp only [Act.put, List.setIfInBounds_toArray, List.set_cons_zero, List.set_cons_succ]
    refine till_take (i := 16) (v := ?_) (some 28) rfl rfl (by kernel_rfl) (by kernel_rfl) (by kernel_rfl) (by kernel_rfl) (by decide) (fun _ _ _ h => h) (by assumption) (Or.inl ⟨by rfl, ?_⟩) ?_
    rotate_left
    · intro w' hSw
      go_split_ands
      go_simp
      try with_reducible rfl
    simp only [Act.put, List.setIfInBounds_toArray, List.set_cons_zero, List.set_cons_succ]
    refine till_take (i := 17) (v := ?_) (some 29) rfl rfl (by kernel_rfl) (by kernel_rfl) (by kernel_rfl) (by kernel_rfl) (by decide) (fun _ _ _ h => h) (by assumption) (Or.inl ⟨by rfl, ?_⟩) ?_
    rotate_left
    · intro w' hSw
      go_split_ands
      go_simp
      try with_reducible rfl
    simp only [Act.put, List.setIfInBounds_toArray, List.set_cons_zero, List.set_cons_succ]
    refine till_take (i := 18) (v := ?_) (some 30) rfl rfl (by kernel_rfl) (by kernel_rfl) (by kernel_rfl) (by kernel_rfl) (by decide) (fun _ _ _ h => h) (by assumption) (Or.inl ⟨by rfl, ?_⟩) ?_
    rotate_left
    · intro w' hSw
      go_split_ands
      go_simp
      try with_reducible rfl
    simp only [Act.put, List.setIfInBounds_toArray, List.set_cons_zero, List.set_cons_succ]
    refine till_take (i := 19) (v := ?_) (some 31) rfl rfl (by kernel_rfl) (by kernel_rfl) (by kernel_rfl) (by kernel_rfl) (by decide) (fun _ _ _ h => h) (by assumption) (Or.inl ⟨by rfl, ?_⟩) ?_
    rotate_left
    · intro w' hSw
      go_split_ands
      go_simp
      try with_reducible rfl
    simp only [Act.put, List.setIfInBounds_toArray, List.set_cons_zero, List.set_cons_succ]
    refine till_take (i := 20) (v := ?_) (some 32) rfl rfl (by kernel_rfl) (by kernel_rfl) (by kernel_rfl) (by kernel_rfl) (by decide) (fun _ _ _ h => h) (by assumption) (Or.inl ⟨by rfl, ?_⟩) ?_
    rotate_left
    · intro w' hSw
      go_split_ands
      go_simp
      try with_reducible rfl
    simp only [Act.put, List.setIfInBounds_toArray, List.set_cons_zero, List.set_cons_succ]
    refine till_take (i := 21) (v := ?_) (some 33) rfl rfl (by kernel_rfl) (by kernel_rfl) (by kernel_rfl) (by kernel_rfl) (by decide) (fun _ _ _ h => h) (by assumption) (Or.inl ⟨by rfl, ?_⟩) ?_
    rotate_left
    · intro w' hSw
      go_split_ands
      go_simp
      try with_reducible rfl
    simp only [Act.put, List.setIfInBounds_toArray, List.set_cons_zero, List.set_cons_succ]
    refine till_take (i := 22) (v := ?_) (some 34) rfl rfl (by kernel_rfl) (by kernel_rfl) (by kernel_rfl) (by kernel_rfl) (by decide) (fun _ _ _ h => h) (by assumption) (Or.inl ⟨by rfl, ?_⟩) ?_
    rotate_left
    · intro w' hSw
      go_split_ands
      go_simp
      try with_reducible rfl
    simp only [Act.put, List.setIfInBounds_toArray, List.set_cons_zero, List.set_cons_succ]
    refine till_take (i := 23) (v := ?_) (some 35) rfl rfl (by kernel_rfl) (by kernel_rfl) (by kernel_rfl) (by kernel_rfl) (by decide) (fun _ _ _ h => h) (by assumption) (Or.inl ⟨by rfl, ?_⟩) ?_
    rotate_left
    · intro w' hSw
      go_split_ands
      go_simp
      try with_reducible rfl
    simp only [Act.put, List.setIfInBounds_toArray, List.set_cons_zero, List.set_cons_succ]
    refine till_take (i := 24) (v := ?_) (some 36) rfl rfl (by kernel_rfl) (by kernel_rfl) (by kernel_rfl) (by kernel_rfl) (by decide) (fun _ _ _ h => h) (by assumption) (Or.inl ⟨by rfl, ?_⟩) ?_
    rotate_left
    · intro w' hSw
      go_split_ands
      go_simp
      try with_reducible rfl
    simp only [Act.put, List.setIfInBounds_toArray, List.set_cons_zero, List.set_cons_succ]
    refine till_one (i := 1) (by kernel_rfl) rfl (fun K hK => ?_)
    go_simp
    refine hK _ _ (fun _ => HSf.out _ (by repeat (with_reducible first | exact Keep.refl _ _ | exact HK7.out | exact HK6.out | apply Keep.alloc | apply Keep.drewN | apply Keep.drew))) ?_
    clear hK K hS0
    have hS0 := HSf.out (X.drew.alloc (.cells #[] 35)) (((Keep.refl _ X).drew).alloc _)
    try simp only [Act.put, List.setIfInBounds_toArray, List.set_cons_zero, List.set_cons_succ]
    refine till_one (i := 6) (by kernel_rfl) rfl (fun K hK => ?_)
    (refine step_appN rfl (.tmp 13) (.tmp 17) 48 rfl 35 frZ 8 8 under48 info35 rfl (by decide) (.slice (some ⟨X.heap.size, 0, none⟩) 0 0) 0 [] rfl (own_none 8 (Blk.at_ (by simp))) Af n cf (flatF t.fr) rfl HNl.out HDX.out.fn (Row.keep HDX.out.fr (by repeat (with_reducible first | exact Keep.refl Zero _ | apply Keep.alloc | apply Keep.drewN | apply Keep.drew)) (fun _ _ _ => id)) (flatF_one_cell _) (by unfold maxLen; omega) (by omega) ?_; intro v6 w6 hown6 hgr6 hfr6; simp only [Nat.zero_add, List.nil_append] at hown6; obtain ⟨A6, c6, rfl⟩ := own_slice hown6; have HK6 : Hid (Keep Zero X w6) := Lib.hid (Keep.trans (by repeat (with_reducible first | exact Keep.refl Zero _ | apply Keep.alloc | apply Keep.drewN | apply Keep.drew)) (keep_new hgr6) (fun i hi => .inr (by have e : i = X.heap.size := hi; omega))); have HO6 := Lib.hid hown6; have HF6 : Hid (∀ a, A6 = some a → X.heap.size ≤ a.block) := Lib.hid (fun a ha => (hfr6 a.block (by subst ha; rfl)).elim (fun h => by simp [Value.ownBlock] at h; omega) (fun h => by simp at h; omega)); clear hown6 hgr6 hfr6)
    refine hK _ _ (fun _ => HSf.out _ (by repeat (with_reducible first | exact Keep.refl _ _ | exact HK7.out | exact HK6.out | apply Keep.alloc | apply Keep.drewN | apply Keep.drew))) ?_
    clear hK K hS0
    change wpTill _ _ _ _ _ _ _ (Act.put _ (some 18) _) _
    have hS0 := HSf.out w6 HK6.out
    try simp only [Act.put, List.setIfInBounds_toArray, List.set_cons_zero, List.set_cons_succ]
    refine till_one (i := 14) (by kernel_rfl) rfl (fun K hK => ?_)
    go_simp
    go_wp2_with ((go_at_call 23; refine (DRegister_any (t := t) (D := D) ⟨_, _, _, _, _, _, HDX.out.old (by repeat (with_reducible first | exact Keep.refl Zero _ | exact HK6.out | apply Keep.alloc | apply Keep.drewN | apply Keep.drew))⟩ HW.out hl).mono ?_; rintro e w' ⟨rfl, rfl⟩; rw [← HR.out]))
    refine hK _ _ (fun _ => HSf.out _ (by repeat (with_reducible first | exact Keep.refl _ _ | exact HK7.out | exact HK6.out | apply Keep.alloc | apply Keep.drewN | apply Keep.drew))) ?_
    clear hK K hS0
    have hS0 := HSf.out w6 HK6.out
    try simp only [Act.put, List.setIfInBounds_toArray, List.set_cons_zero, List.set_cons_succ]
    refine till_take (i := 25) (v := ?_) (some 37) rfl rfl (by kernel_rfl) (by kernel_rfl) (by kernel_rfl) (by kernel_rfl) (by decide) (fun _ _ _ h => h) (by assumption) (Or.inl ⟨by rfl, ?_⟩) ?_
    rotate_left
    · intro w' hSw
      go_split_ands
      go_simp
      try with_reducible rfl
    simp only [Act.put, List.setIfInBounds_toArray, List.set_cons_zero, List.set_cons_succ]
    refine till_one (i := 26) (by kernel_rfl) rfl (fun K hK => ?_)
    go_simp
    refine hK _ _ (fun _ => HSf.out _ (by repeat (with_reducible first | exact Keep.refl _ _ | exact HK7.out | exact HK6.out | apply Keep.alloc | apply Keep.drewN | apply Keep.drew))) ?_
    clear hK K hS0
    have hS0 := HSf.out (w6.alloc (.cells (frameF c r x).cells.toArray 35)) (HK6.out.alloc _)
    try simp only [Act.put, List.setIfInBounds_toArray, List.set_cons_zero, List.set_cons_succ]
    refine till_one (i := 27) (by kernel_rfl) rfl (fun K hK => ?_)
    (refine step_appN rfl (.tmp 18) (.tmp 38) 48 rfl 35 frZ 8 8 under48 info35 rfl (by decide) (.slice A6 n c6) n (flatF t.fr) rfl (World.ownsRow.alloc HO6.out _) (some ⟨w6.heap.size, 0, none⟩) 1 1 (frameF c r x).cells rfl rfl (fun h => by cases h) (Row.blk (Blk.new w6 (frameF c r x).cells.toArray 35) (fun i v hi => by simpa using hi)) (fcells_one _) (by unfold maxLen; omega) (by omega) ?_; intro v7 w7 hown7 hgr7 hfr7; obtain ⟨A7, c7, rfl⟩ := own_slice hown7; have HK7 : Hid (Keep Zero X w7) := Lib.hid (Keep.trans (by repeat (with_reducible first | exact Keep.refl Zero _ | exact HK6.out | apply Keep.alloc | apply Keep.drewN | apply Keep.drew)) (keep_of_grown hgr7 (S := fun k => X.heap.size ≤ k) (fun k hk => by obtain ⟨a, ha, rfl⟩ := own_in hk; exact HF6.out a ha)) (fun i hi => .inr hi)); have HO7 := Lib.hid hown7; have HF7 : Hid (∀ a, A7 = some a → X.heap.size ≤ a.block) := Lib.hid (fun a ha => (hfr7 a.block (by subst ha; rfl)).elim (fun h => by obtain ⟨a', ha', e'⟩ := own_in h; rw [← e']; exact HF6.out a' ha') (fun h => by have := HK6.out.size; simp at h; omega)); clear hown7 hgr7 hfr7; have hd7 := (HDX.out.old HK7.out).blk; have y7 := hd7.cell 5; have f7 := hd7.frozen 5; clear hd7)
    refine hK _ _ (fun _ => HSf.out _ (by repeat (with_reducible first | exact Keep.refl _ _ | exact HK7.out | exact HK6.out | apply Keep.alloc | apply Keep.drewN | apply Keep.drew))) ?_
    clear hK K hS0
    change wpTill _ _ _ _ _ _ _ (Act.put _ (some 39) _) _
    have hS0 := HSf.out w7 HK7.out
    try simp only [Act.put, List.setIfInBounds_toArray, List.set_cons_zero, List.set_cons_succ]
    refine till_one (i := 28) (by kernel_rfl) rfl (fun K hK => ?_)
    go_simp
    refine hK _ _ (fun _ => HSf.out _ (by repeat (with_reducible first | exact Keep.refl _ _ | exact HK7.out | exact HK6.out | apply Keep.alloc | apply Keep.drewN | apply Keep.drew))) ?_
    clear hK K hS0
    have hS0 := HSf.out w7 HK7.out
    try simp only [Act.put, List.setIfInBounds_toArray, List.set_cons_zero, List.set_cons_succ]
    refine till_one (i := 29) (by kernel_rfl) rfl (fun K hK => ?_)
    go_simp
    refine hK _ _ (fun _ => HSf.out _ (by repeat (with_reducible first | exact Keep.refl _ _ | exact HK7.out | exact HK6.out | apply Keep.alloc | apply Keep.drewN | apply Keep.drew))) ?_
    clear hK K hS0
    have hS0 := HSf.out w7 HK7.out
    try simp only [Act.put, List.setIfInBounds_toArray, List.set_cons_zero, List.set_cons_succ]
    refine till_one (i := 30) (by kernel_rfl) rfl (fun K hK => ?_)
    go_simp
    refine hK _ _ (fun h => absurd rfl h) ?_
    clear hK K hS0
    refine till_done (by kernel_rfl) ?_ _
    all_goals
      have hlen : (t.fr ++ [frameF c r x]).length = n + 1 := by rw [List.length_append, HN.out]; rfl
      have hrow7 : Row w7 A7 (flatF (t.fr ++ [frameF c r x])) := own_rowF (n := n + 1) (c := c7) (by rw [flatF_append, show flatF [frameF c r x] = (frameF c r x).cells from by simp [flatF]]; exact HO7.out)
      have hp5 := H.out.put5 (D' := More D w (w7.setCell ⟨d, 5, none⟩ (.slice A7 (n + 1) c7))) (w1 := w7) (A := A7) (c := c7) (l := t.fr ++ [frameF c r x]) (HKX.out.trans HK7.out (fun i hi => hi.elim)) hrow7 (by rw [hlen]; exact (own_le HO7.out).1) (own_le HO7.out).2.1 (fun h => ((own_le HO7.out).2.2 h).2) (fun i hi => .inl hi) (fun _ a ha => ⟨.inr ⟨by have := HF7.out a ha; omega, by have := (own_addr HO7.out a ha).2; simpa using this⟩, by have := HF7.out a ha; omega⟩)
      rw [hlen] at hp5
      have HP5 := Lib.hid hp5
      have HK8 : Hid (Keep (Own.One d) w (w7.setCell ⟨d, 5, none⟩ (.slice A7 (n + 1) c7))) := Lib.hid (((HKX.out.trans HK7.out (fun i hi => hi.elim)).mono (fun i hi => hi.elim)).set1 _ _)
      clear hp5 hlen hrow7
      go_wp2_with fail
      go_end0
      refine ⟨rfl, ?_, HK8.out⟩
      rw [← HR.out]
      exact ⟨_, _, _, _, _, _, HP5.out⟩
  · have HE : Hid (t.tells c x = t) := Lib.hid (by unfold Tl.tells; rw [← hn, if_neg hn16])
    rw [HE.out]
    have hi16 : ¬ (n : Int) < 16 := by omega
    clear h hw hn hn16
    go_enter Try.func32, Try.ntmps32
    go_wp2_with fail
    go_end0
    exact ⟨rfl, IsD.more ⟨_, _, _, _, _, _, H.out.old ((Keep.refl Zero w).alloc _)⟩ (fun i hi => .inl hi), (Keep.refl _ _).alloc _⟩
end Go.Proofs.Ytagklcmkdjgblaa.Emcy
