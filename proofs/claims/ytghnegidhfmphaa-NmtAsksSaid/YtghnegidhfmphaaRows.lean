/-
  No cell of these rows narrows 'for every input' (looked for: loops, veiled, ifaces, maps, wideKeys, modest, calm, conditions, laid).
  DERIVED. THE GIVEN ROWS OF THIS SEAT. 5 by the template 'for every input the law returns true; each argument reads behind the call as it read before'; 0 by the template 'total and deterministic' (their statements: YtghnegidhfmphaaTotals.lean).
  GIVEN WITH THE SEED: the statements are not yours to turn. If you find one false, say at which input.
  Laid BY PROGRAM, IN A SANDBOX (cutbox-rows.mjs): the forced cells as the released guide's own fill.sh prints them over the translation eeafb27e833f5cc0… (all of the seat's roots in one cut). By AI agents, Wed Nov 11 2026. No macro, syntax, notation, axiom, sorry.
-/
import Derived.Test.YtghnegidhfmphaaChecked
import GoSem.Claim
import GoSem.ClaimJoined
import GoSem.ClaimMapViews
import Derived.JoinedTies
import Derived.KernelRfl
namespace Go.Proofs.Ytghnegidhfmphaa
/- THE CELL 'sum', in the pinned program and in every row, IS THE sha256 OF THE DUMP (.gsa) THAT YtghnegidhfmphaaProg.lean LOADS. Nothing in Lean hashes anything: it is a label: what it is worth is what the hold of that sum in a sandbox is worth. -/
noncomputable def Try.pinned : Pinned := { name := "ytghnegidhfmphaa", sum := "eeafb27e833f5cc06b06894fd56623c5e7a0d88b4fb6e4a0ef143e987e92429f", checked := Try.checked }
namespace Rows
def none {H : Type} : Left H := { results := [], args := [] }

/-- 'tramwaylaw17.NmtRuns': WHATEVER THE INPUT: true; the input reads as it did. -/
def nmtRunsSpec : ChangeSpec := { name := "nmtRuns", fn := fun _ => fun
  | [d] => { results := [.lit (.bool true)], args := [d] }
  | _ => none }
def nmtRunsRow : OpenClaim := { program := "ytghnegidhfmphaa", sum := "eeafb27e833f5cc06b06894fd56623c5e7a0d88b4fb6e4a0ef143e987e92429f", func := "tramway/tramwaylaw17.NmtRuns", spec := "nmtRuns", apart := false }
def NmtRunsSaid : Prop := nmtRunsRow.holds Try.pinned (OpenSpec.ofChange nmtRunsSpec)

/-- ITS FALSE NEIGHBOUR: 'it returns false'. Refute it at one input. -/
def nmtRunsWrong : ChangeSpec := { name := "nmtRuns", fn := fun _ => fun
  | [d] => { results := [.lit (.bool false)], args := [d] }
  | _ => none }
def NmtRunsWrongFalsely : Prop := nmtRunsRow.holds Try.pinned (OpenSpec.ofChange nmtRunsWrong)

/-- 'tramwaylaw17.NmtCounts': WHATEVER THE INPUT: true; the input reads as it did. -/
def nmtCountsSpec : ChangeSpec := { name := "nmtCounts", fn := fun _ => fun
  | [d] => { results := [.lit (.bool true)], args := [d] }
  | _ => none }
def nmtCountsRow : OpenClaim := { program := "ytghnegidhfmphaa", sum := "eeafb27e833f5cc06b06894fd56623c5e7a0d88b4fb6e4a0ef143e987e92429f", func := "tramway/tramwaylaw17.NmtCounts", spec := "nmtCounts", apart := false }
def NmtCountsSaid : Prop := nmtCountsRow.holds Try.pinned (OpenSpec.ofChange nmtCountsSpec)

/-- ITS FALSE NEIGHBOUR: 'it returns false'. Refute it at one input. -/
def nmtCountsWrong : ChangeSpec := { name := "nmtCounts", fn := fun _ => fun
  | [d] => { results := [.lit (.bool false)], args := [d] }
  | _ => none }
def NmtCountsWrongFalsely : Prop := nmtCountsRow.holds Try.pinned (OpenSpec.ofChange nmtCountsWrong)

/-- 'tramwaylaw17.NmtOthers': WHATEVER THE INPUT: true; the input reads as it did. -/
def nmtOthersSpec : ChangeSpec := { name := "nmtOthers", fn := fun _ => fun
  | [d1, d2, d3] => { results := [.lit (.bool true)], args := [d1, d2, d3] }
  | _ => none }
def nmtOthersRow : OpenClaim := { program := "ytghnegidhfmphaa", sum := "eeafb27e833f5cc06b06894fd56623c5e7a0d88b4fb6e4a0ef143e987e92429f", func := "tramway/tramwaylaw17.NmtOthers", spec := "nmtOthers", apart := false }
def NmtOthersSaid : Prop := nmtOthersRow.holds Try.pinned (OpenSpec.ofChange nmtOthersSpec)

/-- ITS FALSE NEIGHBOUR: 'it returns false'. Refute it at one input. -/
def nmtOthersWrong : ChangeSpec := { name := "nmtOthers", fn := fun _ => fun
  | [d1, d2, d3] => { results := [.lit (.bool false)], args := [d1, d2, d3] }
  | _ => none }
def NmtOthersWrongFalsely : Prop := nmtOthersRow.holds Try.pinned (OpenSpec.ofChange nmtOthersWrong)

/-- 'tramwaylaw17.NmtNodes': WHATEVER THE INPUT: true; the input reads as it did. -/
def nmtNodesSpec : ChangeSpec := { name := "nmtNodes", fn := fun _ => fun
  | [d1, d2] => { results := [.lit (.bool true)], args := [d1, d2] }
  | _ => none }
def nmtNodesRow : OpenClaim := { program := "ytghnegidhfmphaa", sum := "eeafb27e833f5cc06b06894fd56623c5e7a0d88b4fb6e4a0ef143e987e92429f", func := "tramway/tramwaylaw17.NmtNodes", spec := "nmtNodes", apart := false }
def NmtNodesSaid : Prop := nmtNodesRow.holds Try.pinned (OpenSpec.ofChange nmtNodesSpec)

/-- ITS FALSE NEIGHBOUR: 'it returns false'. Refute it at one input. -/
def nmtNodesWrong : ChangeSpec := { name := "nmtNodes", fn := fun _ => fun
  | [d1, d2] => { results := [.lit (.bool false)], args := [d1, d2] }
  | _ => none }
def NmtNodesWrongFalsely : Prop := nmtNodesRow.holds Try.pinned (OpenSpec.ofChange nmtNodesWrong)

/-- 'tramwaylaw17.NmtAsks': WHATEVER THE INPUT: true; the input reads as it did. -/
def nmtAsksSpec : ChangeSpec := { name := "nmtAsks", fn := fun _ => fun
  | [d] => { results := [.lit (.bool true)], args := [d] }
  | _ => none }
def nmtAsksRow : OpenClaim := { program := "ytghnegidhfmphaa", sum := "eeafb27e833f5cc06b06894fd56623c5e7a0d88b4fb6e4a0ef143e987e92429f", func := "tramway/tramwaylaw17.NmtAsks", spec := "nmtAsks", apart := false }
def NmtAsksSaid : Prop := nmtAsksRow.holds Try.pinned (OpenSpec.ofChange nmtAsksSpec)

/-- ITS FALSE NEIGHBOUR: 'it returns false'. Refute it at one input. -/
def nmtAsksWrong : ChangeSpec := { name := "nmtAsks", fn := fun _ => fun
  | [d] => { results := [.lit (.bool false)], args := [d] }
  | _ => none }
def NmtAsksWrongFalsely : Prop := nmtAsksRow.holds Try.pinned (OpenSpec.ofChange nmtAsksWrong)

/- THE SECOND FORM. 'bulk': how many values and letters a reading holds, each counted each time it is reached (what is shared counts as often as it is met; a slice's spare places count too). A statement '..UptoSaid' is the law's where the arguments, and the package variables that the reading takes, are together of bulk at most 1048576: NARROWER than '..Said'. Prove '..Said' where nothing that the law and all that it calls make is longer than what came in: it says more and counts as full. Else prove '..UptoSaid'. A law counts once. -/
mutual
def uptoBulk {H : Type} : DataW H → Nat
  | .lit (.string bytes) => bytes.length + 1
  | .lit _ => 1
  | .nil => 1
  | .ptr d => uptoBulk d + 1
  | .slice elems spare => uptoBulkAll elems + uptoBulkAll spare + 1
  | .agg parts => uptoBulkAll parts + 1
  | .iface _ d => uptoBulk d + 1
  | .map entries => uptoBulkEntries entries + 1
  | .held _ => 1
def uptoBulkAll {H : Type} : List (DataW H) → Nat
  | [] => 0
  | d :: r => uptoBulk d + uptoBulkAll r
def uptoBulkEntries {H : Type} : List (Lit × DataW H) → Nat
  | [] => 0
  | x :: r => uptoBulkEntry x + uptoBulkEntries r
def uptoBulkEntry {H : Type} : Lit × DataW H → Nat
  | (.string bytes, d) => bytes.length + uptoBulk d + 1
  | (_, d) => uptoBulk d + 1
 end
def uptoSmall : (H : Type) → List (DataW H) → Bool := fun _ ds => decide (uptoBulkAll ds ≤ 1048576)
def OpenSpec.upto (s : _root_.Go.ChangeSpec) : _root_.Go.OpenSpec := { _root_.Go.OpenSpec.ofChange s with cond := some uptoSmall }

/-- 'tramwaylaw17.NmtRuns', WHERE WHAT IT READS IS OF BULK AT MOST 1048576: true; the input reads as it did. -/
def nmtRunsUptoRow : OpenClaim := { program := "ytghnegidhfmphaa", sum := "eeafb27e833f5cc06b06894fd56623c5e7a0d88b4fb6e4a0ef143e987e92429f", func := "tramway/tramwaylaw17.NmtRuns", spec := "nmtRuns", apart := false, narrowed := true }
def NmtRunsUptoSaid : Prop := nmtRunsUptoRow.holds Try.pinned (OpenSpec.upto nmtRunsSpec)

/-- 'tramwaylaw17.NmtCounts', WHERE WHAT IT READS IS OF BULK AT MOST 1048576: true; the input reads as it did. -/
def nmtCountsUptoRow : OpenClaim := { program := "ytghnegidhfmphaa", sum := "eeafb27e833f5cc06b06894fd56623c5e7a0d88b4fb6e4a0ef143e987e92429f", func := "tramway/tramwaylaw17.NmtCounts", spec := "nmtCounts", apart := false, narrowed := true }
def NmtCountsUptoSaid : Prop := nmtCountsUptoRow.holds Try.pinned (OpenSpec.upto nmtCountsSpec)

/-- 'tramwaylaw17.NmtOthers', WHERE WHAT IT READS IS OF BULK AT MOST 1048576: true; the input reads as it did. -/
def nmtOthersUptoRow : OpenClaim := { program := "ytghnegidhfmphaa", sum := "eeafb27e833f5cc06b06894fd56623c5e7a0d88b4fb6e4a0ef143e987e92429f", func := "tramway/tramwaylaw17.NmtOthers", spec := "nmtOthers", apart := false, narrowed := true }
def NmtOthersUptoSaid : Prop := nmtOthersUptoRow.holds Try.pinned (OpenSpec.upto nmtOthersSpec)

/-- 'tramwaylaw17.NmtNodes', WHERE WHAT IT READS IS OF BULK AT MOST 1048576: true; the input reads as it did. -/
def nmtNodesUptoRow : OpenClaim := { program := "ytghnegidhfmphaa", sum := "eeafb27e833f5cc06b06894fd56623c5e7a0d88b4fb6e4a0ef143e987e92429f", func := "tramway/tramwaylaw17.NmtNodes", spec := "nmtNodes", apart := false, narrowed := true }
def NmtNodesUptoSaid : Prop := nmtNodesUptoRow.holds Try.pinned (OpenSpec.upto nmtNodesSpec)

/-- 'tramwaylaw17.NmtAsks', WHERE WHAT IT READS IS OF BULK AT MOST 1048576: true; the input reads as it did. -/
def nmtAsksUptoRow : OpenClaim := { program := "ytghnegidhfmphaa", sum := "eeafb27e833f5cc06b06894fd56623c5e7a0d88b4fb6e4a0ef143e987e92429f", func := "tramway/tramwaylaw17.NmtAsks", spec := "nmtAsks", apart := false, narrowed := true }
def NmtAsksUptoSaid : Prop := nmtAsksUptoRow.holds Try.pinned (OpenSpec.upto nmtAsksSpec)

end Rows
end Go.Proofs.Ytghnegidhfmphaa
