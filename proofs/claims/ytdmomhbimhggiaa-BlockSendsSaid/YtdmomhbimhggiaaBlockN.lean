/- The document's sender: how many segments, and its frames. -/
import Derived.Test.YtdmomhbimhggiaaBlockL
import Derived.Test.YtdmomhbimhggiaaBlockM
namespace Go.Proofs.Ytdmomhbimhggiaa.Block
open Go.RowKit Go.Proofs.Ytdmomhbimhggiaa.Own Go.Proofs.Ytdmomhbimhggiaa.Crc
structure Doc where
  A : Option Addr
  cap : Nat
  bs : List Int
  at' : Nat
  many : Nat
  wait : Nat
  code : Int
def Doc.cells (d : Doc) : Array Value := #[.slice d.A d.bs.length d.cap, .int .i64 d.at', .int .i64 d.many, .int .i64 d.wait, .int .u32 d.code]
structure IsDoc (w : World) (g : Nat) (d : Doc) : Prop where
  blk : Blk w g d.cells 34
  inb : In w d.A d.cap d.bs
  far : ∀ a, d.A = some a → d.bs ≠ [] → a.block ≠ g
  big : d.bs.length ≤ 65536
  atb : d.at' ≤ 100000
theorem In.keep' {S : Nat → Prop} {w w1 : World} {A : Option Addr} {c : Nat} {xs : List Int} (h : In w A c xs) (k : Keep S w w1) (hs : ∀ a, A = some a → xs ≠ [] → ¬ S a.block) : In w1 A c xs :=
  ⟨h.row.keep k (fun a ha hn => hs a ha (fun e => hn (by rw [e]; rfl))), h.nil, h.le, h.byte⟩
theorem IsDoc.keep {S : Nat → Prop} {w w1 : World} {g : Nat} {d : Doc} (h : IsDoc w g d) (k : Keep S w w1) (h1 : ¬ S g) (h2 : ∀ a, d.A = some a → d.bs ≠ [] → ¬ S a.block) : IsDoc w1 g d :=
  ⟨h.blk.keep k h1, h.inb.keep' k h2, h.far, h.big, h.atb⟩
theorem IsDoc.put {w : World} {g : Nat} {d : Doc} (h : IsDoc w g d) (j : Nat) (v : Value) (d2 : Doc) (hc : d.cells.setIfInBounds j v = d2.cells) (hA : d2.A = d.A) (hcap : d2.cap = d.cap) (hbs : d2.bs = d.bs) (hat : d2.at' ≤ 100000) : IsDoc (w.setCell ⟨g, j, none⟩ v) g d2 :=
  ⟨(h.blk.set j v).cast hc, by rw [hA, hcap, hbs]; exact h.inb.keep' ((Keep.refl (Own.One g) w).set1 j _) (fun a ha hn e => h.far a ha hn e), by rw [hA, hbs]; exact h.far, by rw [hbs]; exact h.big, hat⟩
theorem IsDoc.alloc {w : World} {g : Nat} {d : Doc} (h : IsDoc w g d) (o : Go.Obj) : IsDoc (w.alloc o) g d := h.keep ((Keep.refl Own.Zero w).alloc o) id (fun _ _ _ => id)
theorem All_is {w : World} {g : Nat} {d : Doc} (h : IsDoc w g d) (m : Nat) (hm : m = segs d.bs) : Calls Try.prog 29 #[.pointer (some ⟨g, 0, none⟩)] w fun e w' => e = .returned (.int .i64 m) ∧ w = w' := by
  have c0 : w.cell? ⟨g, 0, none⟩ = some (.slice d.A d.bs.length d.cap) := h.blk.cell 0
  have hb := h.big
  obtain ⟨n, hn⟩ : ∃ n, n = d.bs.length := ⟨_, rfl⟩
  rw [← hn] at c0 hb
  obtain ⟨v, hv⟩ : ∃ v : Nat, v = (n + 6) / 7 := ⟨_, rfl⟩
  have hq : ((n : Int) + 6).tdiv 7 = (v : Int) := by rw [Int.tdiv_eq_ediv_of_nonneg (by omega)]; omega
  have hq2 : ((n : Int) + 6) / 7 = (v : Int) := by omega
  have HM : Hid (m = max v 1) := Lib.hid (by rw [hm]; unfold segs; omega)
  clear h hn hm
  by_cases h0 : v = 0
  · have h1 : (v : Int) = 0 := by omega
    have HV := Lib.hid h0
    clear h0 hv
    go_enter Try.func29, Try.ntmps29
    go_wp2
    go_ret
    refine ⟨?_, rfl⟩
    have := HM.out
    have := HV.out
    rw [show m = 1 by omega]
    rfl
  · have h1 : ¬ (v : Int) = 0 := by omega
    have HV := Lib.hid h0
    clear h0 hv
    go_enter Try.func29, Try.ntmps29
    go_wp2
    go_ret
    refine ⟨?_, rfl⟩
    have := HM.out
    have := HV.out
    rw [show m = v by omega]
    rfl
/-- The frame, while its bytes are laid. -/
def partF (bs : List Int) (N i k : Nat) (j : Nat) : Int := if j = 0 then (i : Int) + 1 else if j ≤ k then bs.getD (7 * N + (j - 1)) 0 else 0
theorem part_set (bs : List Int) (N i k : Nat) (hk : k < 7) : (frameC (partF bs N i k)).setIfInBounds (1 + k) (.int .u8 (bs.getD (7 * N + k) 0)) = frameC (partF bs N i (k + 1)) := by
  rcases k with _ | _ | _ | _ | _ | _ | _ | k
  all_goals first | rfl | omega
theorem part_skip (bs : List Int) (N i k : Nat) (hk : k < 7) (h : bs.length ≤ 7 * N + k) : frameC (partF bs N i k) = frameC (partF bs N i (k + 1)) := by
  have e : bs.getD (7 * N + k) 0 = 0 := by
    rw [List.getD_eq_getElem?_getD, List.getElem?_eq_none h]
    rfl
  rw [← part_set bs N i k hk, e]
  rcases k with _ | _ | _ | _ | _ | _ | _ | k
  all_goals first | rfl | omega
theorem part_cell (bs : List Int) (N i k : Nat) (hk : k < 7) : (frameC (partF bs N i k))[1 + k]? = some (.int .u8 0) := by
  rcases k with _ | _ | _ | _ | _ | _ | _ | k
  all_goals first | rfl | omega
end Go.Proofs.Ytdmomhbimhggiaa.Block
