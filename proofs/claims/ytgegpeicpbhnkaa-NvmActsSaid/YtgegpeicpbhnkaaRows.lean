/-
  No cell of these rows narrows 'for every input' (looked for: loops, veiled, ifaces, maps, wideKeys, modest, calm, conditions, laid).
  DERIVED. THE GIVEN ROWS OF THIS SEAT. 5 by the template 'for every input the law returns true; each argument reads behind the call as it read before'; 0 by the template 'total and deterministic' (their statements: YtgegpeicpbhnkaaTotals.lean).
  GIVEN WITH THE SEED: the statements are not yours to turn. If you find one false, say at which input.
  Laid BY PROGRAM, IN A SANDBOX (cutbox-rows.mjs): the forced cells as the released guide's own fill.sh prints them over the translation 522db7ffaa9620a5… (all of the seat's roots in one cut). By AI agents, Wed Nov 11 2026. No macro, syntax, notation, axiom, sorry.
-/
import Derived.Test.YtgegpeicpbhnkaaChecked
import GoSem.Claim
import GoSem.ClaimJoined
import GoSem.ClaimMapViews
import Derived.JoinedTies
import Derived.KernelRfl
namespace Go.Proofs.Ytgegpeicpbhnkaa
/- THE CELL 'sum', in the pinned program and in every row, IS THE sha256 OF THE DUMP (.gsa) THAT YtgegpeicpbhnkaaProg.lean LOADS. Nothing in Lean hashes anything: it is a label: what it is worth is what the hold of that sum in a sandbox is worth. -/
noncomputable def Try.pinned : Pinned := { name := "ytgegpeicpbhnkaa", sum := "522db7ffaa9620a5c32290b6513ed951ec0c946356a5320fa6cb14b45dca8448", checked := Try.checked }
namespace Rows
def none {H : Type} : Left H := { results := [], args := [] }

/-- 'tramwaylaw09.NvmRoom': WHATEVER THE INPUT: true; the input reads as it did. -/
def nvmRoomSpec : ChangeSpec := { name := "nvmRoom", fn := fun _ => fun
  | [d1, d2] => { results := [.lit (.bool true)], args := [d1, d2] }
  | _ => none }
def nvmRoomRow : OpenClaim := { program := "ytgegpeicpbhnkaa", sum := "522db7ffaa9620a5c32290b6513ed951ec0c946356a5320fa6cb14b45dca8448", func := "tramway/tramwaylaw09.NvmRoom", spec := "nvmRoom", apart := false }
def NvmRoomSaid : Prop := nvmRoomRow.holds Try.pinned (OpenSpec.ofChange nvmRoomSpec)

/-- ITS FALSE NEIGHBOUR: 'it returns false'. Refute it at one input. -/
def nvmRoomWrong : ChangeSpec := { name := "nvmRoom", fn := fun _ => fun
  | [d1, d2] => { results := [.lit (.bool false)], args := [d1, d2] }
  | _ => none }
def NvmRoomWrongFalsely : Prop := nvmRoomRow.holds Try.pinned (OpenSpec.ofChange nvmRoomWrong)

/-- 'tramwaylaw09.NvmWhole': WHATEVER THE INPUT: true; the input reads as it did. -/
def nvmWholeSpec : ChangeSpec := { name := "nvmWhole", fn := fun _ => fun
  | [d1, d2] => { results := [.lit (.bool true)], args := [d1, d2] }
  | _ => none }
def nvmWholeRow : OpenClaim := { program := "ytgegpeicpbhnkaa", sum := "522db7ffaa9620a5c32290b6513ed951ec0c946356a5320fa6cb14b45dca8448", func := "tramway/tramwaylaw09.NvmWhole", spec := "nvmWhole", apart := false }
def NvmWholeSaid : Prop := nvmWholeRow.holds Try.pinned (OpenSpec.ofChange nvmWholeSpec)

/-- ITS FALSE NEIGHBOUR: 'it returns false'. Refute it at one input. -/
def nvmWholeWrong : ChangeSpec := { name := "nvmWhole", fn := fun _ => fun
  | [d1, d2] => { results := [.lit (.bool false)], args := [d1, d2] }
  | _ => none }
def NvmWholeWrongFalsely : Prop := nvmWholeRow.holds Try.pinned (OpenSpec.ofChange nvmWholeWrong)

/-- 'tramwaylaw09.NvmCuts': WHATEVER THE INPUT: true; the input reads as it did. -/
def nvmCutsSpec : ChangeSpec := { name := "nvmCuts", fn := fun _ => fun
  | [d1, d2] => { results := [.lit (.bool true)], args := [d1, d2] }
  | _ => none }
def nvmCutsRow : OpenClaim := { program := "ytgegpeicpbhnkaa", sum := "522db7ffaa9620a5c32290b6513ed951ec0c946356a5320fa6cb14b45dca8448", func := "tramway/tramwaylaw09.NvmCuts", spec := "nvmCuts", apart := false }
def NvmCutsSaid : Prop := nvmCutsRow.holds Try.pinned (OpenSpec.ofChange nvmCutsSpec)

/-- ITS FALSE NEIGHBOUR: 'it returns false'. Refute it at one input. -/
def nvmCutsWrong : ChangeSpec := { name := "nvmCuts", fn := fun _ => fun
  | [d1, d2] => { results := [.lit (.bool false)], args := [d1, d2] }
  | _ => none }
def NvmCutsWrongFalsely : Prop := nvmCutsRow.holds Try.pinned (OpenSpec.ofChange nvmCutsWrong)

/-- 'tramwaylaw09.NvmAgain': WHATEVER THE INPUT: true; the input reads as it did. -/
def nvmAgainSpec : ChangeSpec := { name := "nvmAgain", fn := fun _ => fun
  | [d1, d2] => { results := [.lit (.bool true)], args := [d1, d2] }
  | _ => none }
def nvmAgainRow : OpenClaim := { program := "ytgegpeicpbhnkaa", sum := "522db7ffaa9620a5c32290b6513ed951ec0c946356a5320fa6cb14b45dca8448", func := "tramway/tramwaylaw09.NvmAgain", spec := "nvmAgain", apart := false }
def NvmAgainSaid : Prop := nvmAgainRow.holds Try.pinned (OpenSpec.ofChange nvmAgainSpec)

/-- ITS FALSE NEIGHBOUR: 'it returns false'. Refute it at one input. -/
def nvmAgainWrong : ChangeSpec := { name := "nvmAgain", fn := fun _ => fun
  | [d1, d2] => { results := [.lit (.bool false)], args := [d1, d2] }
  | _ => none }
def NvmAgainWrongFalsely : Prop := nvmAgainRow.holds Try.pinned (OpenSpec.ofChange nvmAgainWrong)

/-- 'tramwaylaw09.NvmActs': WHATEVER THE INPUT: true; the input reads as it did. -/
def nvmActsSpec : ChangeSpec := { name := "nvmActs", fn := fun _ => fun
  | [d1, d2] => { results := [.lit (.bool true)], args := [d1, d2] }
  | _ => none }
def nvmActsRow : OpenClaim := { program := "ytgegpeicpbhnkaa", sum := "522db7ffaa9620a5c32290b6513ed951ec0c946356a5320fa6cb14b45dca8448", func := "tramway/tramwaylaw09.NvmActs", spec := "nvmActs", apart := false }
def NvmActsSaid : Prop := nvmActsRow.holds Try.pinned (OpenSpec.ofChange nvmActsSpec)

/-- ITS FALSE NEIGHBOUR: 'it returns false'. Refute it at one input. -/
def nvmActsWrong : ChangeSpec := { name := "nvmActs", fn := fun _ => fun
  | [d1, d2] => { results := [.lit (.bool false)], args := [d1, d2] }
  | _ => none }
def NvmActsWrongFalsely : Prop := nvmActsRow.holds Try.pinned (OpenSpec.ofChange nvmActsWrong)

/- THE SECOND FORM. 'bulk': how many values and letters a reading holds, each counted each time it is reached (what is shared counts as often as it is met; a slice's spare places count too). A statement '..UptoSaid' is the law's where the arguments, and the package variables that the reading takes, are together of bulk at most 1048576: NARROWER than '..Said'. Prove '..Said' where nothing that the law and all that it calls make is longer than what came in: it says more and counts as full. Else prove '..UptoSaid'. A law counts once. -/
mutual
def uptoBulk {H : Type} : DataW H → Nat
  | .lit (.string bytes) => bytes.length + 1
  | .lit _ => 1
  | .nil => 1
  | .ptr d => uptoBulk d + 1
  | .slice elems spare => uptoBulkAll elems + uptoBulkAll spare + 1
  | .agg parts => uptoBulkAll parts + 1
  | .iface _ d => uptoBulk d + 1
  | .map entries => uptoBulkEntries entries + 1
  | .held _ => 1
def uptoBulkAll {H : Type} : List (DataW H) → Nat
  | [] => 0
  | d :: r => uptoBulk d + uptoBulkAll r
def uptoBulkEntries {H : Type} : List (Lit × DataW H) → Nat
  | [] => 0
  | x :: r => uptoBulkEntry x + uptoBulkEntries r
def uptoBulkEntry {H : Type} : Lit × DataW H → Nat
  | (.string bytes, d) => bytes.length + uptoBulk d + 1
  | (_, d) => uptoBulk d + 1
 end
def uptoSmall : (H : Type) → List (DataW H) → Bool := fun _ ds => decide (uptoBulkAll ds ≤ 1048576)
def OpenSpec.upto (s : _root_.Go.ChangeSpec) : _root_.Go.OpenSpec := { _root_.Go.OpenSpec.ofChange s with cond := some uptoSmall }

/-- 'tramwaylaw09.NvmRoom', WHERE WHAT IT READS IS OF BULK AT MOST 1048576: true; the input reads as it did. -/
def nvmRoomUptoRow : OpenClaim := { program := "ytgegpeicpbhnkaa", sum := "522db7ffaa9620a5c32290b6513ed951ec0c946356a5320fa6cb14b45dca8448", func := "tramway/tramwaylaw09.NvmRoom", spec := "nvmRoom", apart := false, narrowed := true }
def NvmRoomUptoSaid : Prop := nvmRoomUptoRow.holds Try.pinned (OpenSpec.upto nvmRoomSpec)

/-- 'tramwaylaw09.NvmWhole', WHERE WHAT IT READS IS OF BULK AT MOST 1048576: true; the input reads as it did. -/
def nvmWholeUptoRow : OpenClaim := { program := "ytgegpeicpbhnkaa", sum := "522db7ffaa9620a5c32290b6513ed951ec0c946356a5320fa6cb14b45dca8448", func := "tramway/tramwaylaw09.NvmWhole", spec := "nvmWhole", apart := false, narrowed := true }
def NvmWholeUptoSaid : Prop := nvmWholeUptoRow.holds Try.pinned (OpenSpec.upto nvmWholeSpec)

/-- 'tramwaylaw09.NvmCuts', WHERE WHAT IT READS IS OF BULK AT MOST 1048576: true; the input reads as it did. -/
def nvmCutsUptoRow : OpenClaim := { program := "ytgegpeicpbhnkaa", sum := "522db7ffaa9620a5c32290b6513ed951ec0c946356a5320fa6cb14b45dca8448", func := "tramway/tramwaylaw09.NvmCuts", spec := "nvmCuts", apart := false, narrowed := true }
def NvmCutsUptoSaid : Prop := nvmCutsUptoRow.holds Try.pinned (OpenSpec.upto nvmCutsSpec)

/-- 'tramwaylaw09.NvmAgain', WHERE WHAT IT READS IS OF BULK AT MOST 1048576: true; the input reads as it did. -/
def nvmAgainUptoRow : OpenClaim := { program := "ytgegpeicpbhnkaa", sum := "522db7ffaa9620a5c32290b6513ed951ec0c946356a5320fa6cb14b45dca8448", func := "tramway/tramwaylaw09.NvmAgain", spec := "nvmAgain", apart := false, narrowed := true }
def NvmAgainUptoSaid : Prop := nvmAgainUptoRow.holds Try.pinned (OpenSpec.upto nvmAgainSpec)

/-- 'tramwaylaw09.NvmActs', WHERE WHAT IT READS IS OF BULK AT MOST 1048576: true; the input reads as it did. -/
def nvmActsUptoRow : OpenClaim := { program := "ytgegpeicpbhnkaa", sum := "522db7ffaa9620a5c32290b6513ed951ec0c946356a5320fa6cb14b45dca8448", func := "tramway/tramwaylaw09.NvmActs", spec := "nvmActs", apart := false, narrowed := true }
def NvmActsUptoSaid : Prop := nvmActsUptoRow.holds Try.pinned (OpenSpec.upto nvmActsSpec)

end Rows
end Go.Proofs.Ytgegpeicpbhnkaa
