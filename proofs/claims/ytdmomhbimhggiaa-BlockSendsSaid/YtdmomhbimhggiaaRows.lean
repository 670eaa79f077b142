/-
  No cell of these rows narrows 'for every input' (looked for: loops, veiled, ifaces, maps, wideKeys, modest, calm, conditions, laid).
  DERIVED. THE GIVEN ROWS OF THIS SEAT. 4 by the template 'for every input the law returns true; each argument reads behind the call as it read before'; 0 by the template 'total and deterministic' (their statements: YtdmomhbimhggiaaTotals.lean).
  GIVEN WITH THE SEED: the statements are not yours to turn. If you find one false, say at which input.
  Laid BY PROGRAM, IN A SANDBOX (cutbox-rows.mjs): the forced cells as the released guide's own fill.sh prints them over the translation 4fee1779847ca07c… (all of the seat's roots in one cut). By AI agents, Wed Nov 11 2026. No macro, syntax, notation, axiom, sorry.
-/
import Derived.Test.YtdmomhbimhggiaaChecked
import GoSem.Claim
import GoSem.ClaimJoined
import GoSem.ClaimMapViews
import Derived.JoinedTies
import Derived.KernelRfl
namespace Go.Proofs.Ytdmomhbimhggiaa
/- THE CELL 'sum', in the pinned program and in every row, IS THE sha256 OF THE DUMP (.gsa) THAT YtdmomhbimhggiaaProg.lean LOADS. Nothing in Lean hashes anything: it is a label: what it is worth is what the hold of that sum in a sandbox is worth. -/
noncomputable def Try.pinned : Pinned := { name := "ytdmomhbimhggiaa", sum := "4fee1779847ca07ccf96f9cc49f91babd54b9b9959643df6edd12b3f5761650a", checked := Try.checked }
namespace Rows
def none {H : Type} : Left H := { results := [], args := [] }

/-- 'tramwaylaw12.BlockSends': WHATEVER THE INPUT: true; the input reads as it did. -/
def blockSendsSpec : ChangeSpec := { name := "blockSends", fn := fun _ => fun
  | [d1, d2, d3] => { results := [.lit (.bool true)], args := [d1, d2, d3] }
  | _ => none }
def blockSendsRow : OpenClaim := { program := "ytdmomhbimhggiaa", sum := "4fee1779847ca07ccf96f9cc49f91babd54b9b9959643df6edd12b3f5761650a", func := "tramway/tramwaylaw12.BlockSends", spec := "blockSends", apart := false }
def BlockSendsSaid : Prop := blockSendsRow.holds Try.pinned (OpenSpec.ofChange blockSendsSpec)

/-- ITS FALSE NEIGHBOUR: 'it returns false'. Refute it at one input. -/
def blockSendsWrong : ChangeSpec := { name := "blockSends", fn := fun _ => fun
  | [d1, d2, d3] => { results := [.lit (.bool false)], args := [d1, d2, d3] }
  | _ => none }
def BlockSendsWrongFalsely : Prop := blockSendsRow.holds Try.pinned (OpenSpec.ofChange blockSendsWrong)

/-- 'tramwaylaw12.BlockTold': WHATEVER THE INPUT: true; the input reads as it did. -/
def blockToldSpec : ChangeSpec := { name := "blockTold", fn := fun _ => fun
  | [d1, d2, d3] => { results := [.lit (.bool true)], args := [d1, d2, d3] }
  | _ => none }
def blockToldRow : OpenClaim := { program := "ytdmomhbimhggiaa", sum := "4fee1779847ca07ccf96f9cc49f91babd54b9b9959643df6edd12b3f5761650a", func := "tramway/tramwaylaw12.BlockTold", spec := "blockTold", apart := false }
def BlockToldSaid : Prop := blockToldRow.holds Try.pinned (OpenSpec.ofChange blockToldSpec)

/-- ITS FALSE NEIGHBOUR: 'it returns false'. Refute it at one input. -/
def blockToldWrong : ChangeSpec := { name := "blockTold", fn := fun _ => fun
  | [d1, d2, d3] => { results := [.lit (.bool false)], args := [d1, d2, d3] }
  | _ => none }
def BlockToldWrongFalsely : Prop := blockToldRow.holds Try.pinned (OpenSpec.ofChange blockToldWrong)

/-- 'tramwaylaw12.BlockWhole': WHATEVER THE INPUT: true; the input reads as it did. -/
def blockWholeSpec : ChangeSpec := { name := "blockWhole", fn := fun _ => fun
  | [d1, d2, d3] => { results := [.lit (.bool true)], args := [d1, d2, d3] }
  | _ => none }
def blockWholeRow : OpenClaim := { program := "ytdmomhbimhggiaa", sum := "4fee1779847ca07ccf96f9cc49f91babd54b9b9959643df6edd12b3f5761650a", func := "tramway/tramwaylaw12.BlockWhole", spec := "blockWhole", apart := false }
def BlockWholeSaid : Prop := blockWholeRow.holds Try.pinned (OpenSpec.ofChange blockWholeSpec)

/-- ITS FALSE NEIGHBOUR: 'it returns false'. Refute it at one input. -/
def blockWholeWrong : ChangeSpec := { name := "blockWhole", fn := fun _ => fun
  | [d1, d2, d3] => { results := [.lit (.bool false)], args := [d1, d2, d3] }
  | _ => none }
def BlockWholeWrongFalsely : Prop := blockWholeRow.holds Try.pinned (OpenSpec.ofChange blockWholeWrong)

/-- 'tramwaylaw12.BlockSizes': WHATEVER THE INPUT: true; the input reads as it did. -/
def blockSizesSpec : ChangeSpec := { name := "blockSizes", fn := fun _ => fun
  | [d1, d2] => { results := [.lit (.bool true)], args := [d1, d2] }
  | _ => none }
def blockSizesRow : OpenClaim := { program := "ytdmomhbimhggiaa", sum := "4fee1779847ca07ccf96f9cc49f91babd54b9b9959643df6edd12b3f5761650a", func := "tramway/tramwaylaw12.BlockSizes", spec := "blockSizes", apart := false }
def BlockSizesSaid : Prop := blockSizesRow.holds Try.pinned (OpenSpec.ofChange blockSizesSpec)

/-- ITS FALSE NEIGHBOUR: 'it returns false'. Refute it at one input. -/
def blockSizesWrong : ChangeSpec := { name := "blockSizes", fn := fun _ => fun
  | [d1, d2] => { results := [.lit (.bool false)], args := [d1, d2] }
  | _ => none }
def BlockSizesWrongFalsely : Prop := blockSizesRow.holds Try.pinned (OpenSpec.ofChange blockSizesWrong)

/- THE SECOND FORM. 'bulk': how many values and letters a reading holds, each counted each time it is reached (what is shared counts as often as it is met; a slice's spare places count too). A statement '..UptoSaid' is the law's where the arguments, and the package variables that the reading takes, are together of bulk at most 1048576: NARROWER than '..Said'. Prove '..Said' where nothing that the law and all that it calls make is longer than what came in: it says more and counts as full. Else prove '..UptoSaid'. A law counts once. -/
mutual
def uptoBulk {H : Type} : DataW H → Nat
  | .lit (.string bytes) => bytes.length + 1
  | .lit _ => 1
  | .nil => 1
  | .ptr d => uptoBulk d + 1
  | .slice elems spare => uptoBulkAll elems + uptoBulkAll spare + 1
  | .agg parts => uptoBulkAll parts + 1
  | .iface _ d => uptoBulk d + 1
  | .map entries => uptoBulkEntries entries + 1
  | .held _ => 1
def uptoBulkAll {H : Type} : List (DataW H) → Nat
  | [] => 0
  | d :: r => uptoBulk d + uptoBulkAll r
def uptoBulkEntries {H : Type} : List (Lit × DataW H) → Nat
  | [] => 0
  | x :: r => uptoBulkEntry x + uptoBulkEntries r
def uptoBulkEntry {H : Type} : Lit × DataW H → Nat
  | (.string bytes, d) => bytes.length + uptoBulk d + 1
  | (_, d) => uptoBulk d + 1
 end
def uptoSmall : (H : Type) → List (DataW H) → Bool := fun _ ds => decide (uptoBulkAll ds ≤ 1048576)
def OpenSpec.upto (s : _root_.Go.ChangeSpec) : _root_.Go.OpenSpec := { _root_.Go.OpenSpec.ofChange s with cond := some uptoSmall }

/-- 'tramwaylaw12.BlockSends', WHERE WHAT IT READS IS OF BULK AT MOST 1048576: true; the input reads as it did. -/
def blockSendsUptoRow : OpenClaim := { program := "ytdmomhbimhggiaa", sum := "4fee1779847ca07ccf96f9cc49f91babd54b9b9959643df6edd12b3f5761650a", func := "tramway/tramwaylaw12.BlockSends", spec := "blockSends", apart := false, narrowed := true }
def BlockSendsUptoSaid : Prop := blockSendsUptoRow.holds Try.pinned (OpenSpec.upto blockSendsSpec)

/-- 'tramwaylaw12.BlockTold', WHERE WHAT IT READS IS OF BULK AT MOST 1048576: true; the input reads as it did. -/
def blockToldUptoRow : OpenClaim := { program := "ytdmomhbimhggiaa", sum := "4fee1779847ca07ccf96f9cc49f91babd54b9b9959643df6edd12b3f5761650a", func := "tramway/tramwaylaw12.BlockTold", spec := "blockTold", apart := false, narrowed := true }
def BlockToldUptoSaid : Prop := blockToldUptoRow.holds Try.pinned (OpenSpec.upto blockToldSpec)

/-- 'tramwaylaw12.BlockWhole', WHERE WHAT IT READS IS OF BULK AT MOST 1048576: true; the input reads as it did. -/
def blockWholeUptoRow : OpenClaim := { program := "ytdmomhbimhggiaa", sum := "4fee1779847ca07ccf96f9cc49f91babd54b9b9959643df6edd12b3f5761650a", func := "tramway/tramwaylaw12.BlockWhole", spec := "blockWhole", apart := false, narrowed := true }
def BlockWholeUptoSaid : Prop := blockWholeUptoRow.holds Try.pinned (OpenSpec.upto blockWholeSpec)

/-- 'tramwaylaw12.BlockSizes', WHERE WHAT IT READS IS OF BULK AT MOST 1048576: true; the input reads as it did. -/
def blockSizesUptoRow : OpenClaim := { program := "ytdmomhbimhggiaa", sum := "4fee1779847ca07ccf96f9cc49f91babd54b9b9959643df6edd12b3f5761650a", func := "tramway/tramwaylaw12.BlockSizes", spec := "blockSizes", apart := false, narrowed := true }
def BlockSizesUptoSaid : Prop := blockSizesUptoRow.holds Try.pinned (OpenSpec.upto blockSizesSpec)

end Rows
end Go.Proofs.Ytdmomhbimhggiaa
