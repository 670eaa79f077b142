/- One act at both chips: bytes are saved. -/
import Derived.Test.YtgegpeicpbhnkaaNvmZ
import Derived.Deep.RegionLaw
import Derived.Deep.Cut
namespace Go.Proofs.Ytgegpeicpbhnkaa.Nvm
open Go.RowKit Go.Proofs.Ytgegpeicpbhnkaa.Own Go.Proofs.Ytgegpeicpbhnkaa.Crc
section
variable {P : Program} {w : World} {ops : Array Oper} {rest : List Oper} {o : Oper} {a : Act} {K : Act → World → Prop} {Q : Exit → Act → World → Prop}
theorem step_app_own {E : Prop} (hgd : o.guard = none) (s x : Operand) (t : TypeId)
    (ho : o.op = .call { callee := .builtin .append, args := #[s, x], argTypes := #[t, t] })
    (base : Nat) (e : TypeId) (z : Value) (size bytes : Nat) (ht : P.underlying t = some (.slice e)) (hi : (P.info? e).map (fun i => (i.zero, i.size, i.bytes)) = some (some z, size, bytes))
    (hzs : z.cells.size = size) (hsz : 0 < size)
    (v : Value) (n : Nat) (xs : List Value) (hs : a.eval s = v) (hown : w.ownsRow base e size v n xs)
    (A : Option Addr) (m c : Nat) (news : List Value) (hx : a.eval x = .slice A m c) (hl : news.length = m * size) (hnil : A = none → c = 0) (hnews : Row w A news) (h1 : ∀ u ∈ news, u.oneCell' = true)
    (h63 : n + m ≤ maxLen) (hbytes : (n + m) * bytes ≤ 140737488355328) (hbase : base ≤ w.heap.size)
    (h : ∀ v' w', w'.ownsRow base e size v' (n + m) (xs ++ news) → w.grownBy w' v.ownBlock → K (a.put o.dst v') w') :
    if Region.wanted o (yielded ops a.tmps) = true then Oper.wp P o a w K Q else E := by
  rw [if_pos (by simp [Region.wanted, hgd])]
  exact wp_app s x t ho base e z size bytes ht hi hzs hsz v n xs hs hown A m c news hx hl hnil hnews h1 h63 hbytes hbase h
end
theorem src_own {w3 : World} {v : Value} {g p base nb : Nat} {bs : List Int} (h : w3.ownsRow base 5 1 v (0 + nb) ([] ++ ints .u8 bs)) (hn : nb = bs.length) (hg : g < base) (hp : p < base) : ∃ A m, v = .slice A nb m ∧ Src w3 g p A m bs := by
  obtain ⟨A, c, rfl, hr, hl, hm, ha⟩ := Row.own h
  refine ⟨A, c, by rw [Nat.zero_add], ⟨by simpa using hr, by omega, fun hA => ?_, fun a haA e => ?_⟩⟩
  · subst hA
    obtain ⟨_, ⟨hv, _⟩ | ⟨_, cap, cur, hv, _⟩⟩ := h
    · simp only [Value.slice.injEq] at hv
      exact hv.2.2
    · simp at hv
  · have := ha a haA
    rcases e with e | e <;> omega
set_option maxRecDepth 100000 in
set_option maxHeartbeats 16000000 in
theorem does_save {w wr : World} {g p d q : Nat} {c : Ch} (h : SD w wr g p d q c) (n k : Int) (F : Nat → Int) (B : Option Addr) (nb cb : Nat) (bs : List Int) (hn : nb = bs.length) (hr : Row w B (ints .u8 bs)) (hb : ∀ x ∈ bs, 0 ≤ x ∧ x ≤ 255) (hcb : nb ≤ cb) (hnil : B = none → cb = 0) (hbig : nb ≤ 140737488355328) (kind : Int) (hkd : kind = 4) :
    Calls Try.prog 18 #[.pointer (some ⟨g, 0, none⟩), .pointer (some ⟨d, 0, none⟩), .agg (actC kind n k F B nb cb)] wr (Did w g p d q) := by
  subst hkd
  have HFar := Lib.hid (far_x (sizes_x h))
  have HLow : Hid (g < wr.heap.size ∧ p < wr.heap.size) := Lib.hid ⟨h.ch.chip.lt, by rw [← h.pg]; exact h.ch.pages.lt⟩
  have HBx : Hid (Blk (wr.alloc (.cells (actC 4 n k F B nb cb) 46)) wr.heap.size (actC 4 n k F B nb cb) 46) := Lib.hid (Blk.new _ _ _)
  have H := Lib.hid (h.zero ((Keep.refl Zero wr).alloc (.cells (actC 4 n k F B nb cb) 46)))
  have HRow := Lib.hid hr
  have HBy := Lib.hid hb
  have HN := Lib.hid hn
  have HNil := Lib.hid hnil
  have HSrc : Hid (∀ w', Keep Zero w w' → Srd w' d q B cb bs) := Lib.hid (fun w' hk => ⟨hr.keep hk (fun _ _ _ => id), by omega, hnil, fun a ha hx e => by
    have h1 : a.block < w.heap.size := by
      rcases bs with _ | ⟨b0, bs⟩
      · exact absurd rfl hx
      · obtain ⟨b, o, e0, hl, _⟩ := hr 0 _ rfl
        rw [ha] at e0
        cases e0
        exact hl
    have h2 := h.d0
    have h3 := h.q0
    rcases e with e | e <;> omega⟩)
  obtain ⟨r, hre⟩ : ∃ r, r = (saveF c bs).1 := ⟨_, rfl⟩
  have HR := Lib.hid hre
  have hrr : (r == r) = true := by simp
  have z0 : ∀ o, ((wr.alloc (.cells (actC 4 n k F B nb cb) 46)).alloc o).cell? ⟨wr.heap.size, 11, none⟩ = some (.slice B nb cb) := fun o => (HBx.out.alloc o).cell 11
  clear h hr hb hn hnil hre
  unfold actC
  unfold actC at z0
  obtain ⟨W, hW⟩ : ∃ W, W = wr.alloc (.cells #[.int .i64 4, .int .i64 n, .int .i64 k, .int .u8 (F 0), .int .u8 (F 1), .int .u8 (F 2), .int .u8 (F 3), .int .u8 (F 4), .int .u8 (F 5), .int .u8 (F 6), .int .u8 (F 7), .slice B nb cb] 46) := ⟨_, rfl⟩
  have hHW : Hid (SD w W g p d q c) := Lib.hid (by rw [hW]; exact H.out)
  have hHB : Hid (Blk W wr.heap.size (actC 4 n k F B nb cb) 46) := Lib.hid (by rw [hW]; exact HBx.out)
  have hWs : Hid (W.heap.size = wr.heap.size + 1) := Lib.hid (by rw [hW]; simp)
  have HWe := Lib.hid hW
  clear H HBx hW
  go_enter Try.func18, Try.ntmps18
  go_upto_region 11 with fail
  rw [← HWe.out]
  have c11 : W.cell? ⟨wr.heap.size, 11, none⟩ = some (.slice B nb cb) := hHB.out.cell 11
  have lx : wr.heap.size < W.heap.size := hHB.out.lt
  clear z0
  go_region_law (first | (refine step_app_own rfl (.tmp 52) (.tmp 54) 22 rfl W.heap.size 5 (.int .u8 0) 1 1 under22 info5 rfl (by decide) (.slice (some ⟨W.heap.size, 0, none⟩) 0 0) 0 [] rfl (own_empty 1 (by repeat (first | exact Blk.at_ (by simp) | (with_reducible first | apply Blk.alloc | apply Blk.drew)))) B nb cb (ints .u8 bs) rfl (by rw [ints_length, HN.out]; omega) HNil.out (HRow.out.keep (S := Zero) (by repeat (first | exact hHW.out.kp | (with_reducible first | apply Keep.alloc | apply Keep.drew))) (fun _ _ _ => id)) (ints_one _ _) (by unfold maxLen; omega) (by omega) (by simp) ?_; intro v3 w3 hown3 hgr3; obtain ⟨A3, m3, rfl, hs3⟩ := src_own (g := g) (p := p) hown3 HN.out (by have := HLow.out.1; have := hWs.out; omega) (by have := HLow.out.2; have := hWs.out; omega); have hk3 : Keep Zero W w3 := Keep.grown (by repeat (first | exact Keep.refl Zero W | (with_reducible first | apply Keep.alloc | apply Keep.drew))) hgr3 (fun k hk => .inr (by cases hk; exact Nat.le_refl _)); have HS3 := Lib.hid (And.intro (hHW.out.zero hk3) (And.intro hs3 (hHB.out.keep hk3 id))); have y3 : w3.cell? ⟨wr.heap.size, 11, none⟩ = some (.slice B nb cb) := HS3.out.2.2.cell 11; have l3 := HS3.out.2.2.lt; clear hown3 hgr3 hs3 hk3) | (go_simp; go_at_call 9; refine (X_save HS3.out.1 A3 m3 bs nb HN.out HS3.out.2.1 HBy.out hbig r HR.out).mono ?_; rintro e w4 ⟨rfl, HS4⟩; have HB4 := Lib.hid (HS3.out.2.2.keep HS4.out.2 HFar.out.1); have y4 : w4.cell? ⟨wr.heap.size, 11, none⟩ = some (.slice B nb cb) := HB4.out.cell 11; have l4 := HB4.out.lt) | (go_simp; go_at_call 27; refine (X_dsave bs HS4.out.1 B cb nb HN.out (HSrc.out _ HS4.out.1.kp) HBy.out hbig r HR.out).mono ?_; rintro e w5 ⟨rfl, HS5⟩; have y5 : w5.cell? ⟨wr.heap.size, 11, none⟩ = some (.slice B nb cb) := (HB4.out.keep HS5.out.2 HFar.out.2).cell 11))
  all_goals
    go_wp2_with fail
    go_ret
    exact ⟨rfl, _, HS5.out.1⟩
/-- One act, whatever it is. -/
theorem does_any {w wr : World} {g p d q : Nat} {c : Ch} (h : SD w wr g p d q c) (kind n k : Int) (F : Nat → Int) (hF : ∀ i, 0 ≤ F i ∧ F i ≤ 255) (B : Option Addr) (nb cb : Nat) (bs : List Int) (hk : k ≤ 9223372036854775807) (hn : nb = bs.length) (hr : Row w B (ints .u8 bs)) (hb : ∀ x ∈ bs, 0 ≤ x ∧ x ≤ 255) (hcb : nb ≤ cb) (hnil : B = none → cb = 0) (hbig : nb ≤ 140737488355328) :
    Calls Try.prog 18 #[.pointer (some ⟨g, 0, none⟩), .pointer (some ⟨d, 0, none⟩), .agg (actC kind n k F B nb cb)] wr (Did w g p d q) := by
  by_cases k0 : kind = 0
  · exact does_write h n k F hF B nb cb kind k0
  by_cases k2 : kind = 2
  · exact does_cut h n k F hF B nb cb hk kind k2
  by_cases k3 : kind = 3
  · exact does_power h n k F hF B nb cb kind k3
  by_cases k4 : kind = 4
  · exact does_save h n k F B nb cb bs hn hr hb hcb hnil hbig kind k4
  by_cases k5 : kind = 5
  · exact does_load h n k F B nb cb kind k5
  by_cases k6 : kind = 6
  · exact does_erase h n k F hF B nb cb kind k6
  exact does_none h n k F hF B nb cb kind ⟨k0, k2, k3, k4, k5, k6⟩
end Go.Proofs.Ytgegpeicpbhnkaa.Nvm
