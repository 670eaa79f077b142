/-
  No cell of these rows narrows 'for every input' (looked for: loops, veiled, ifaces, maps, wideKeys, modest, calm, conditions, laid).
  DERIVED. THE GIVEN ROWS OF THIS SEAT. 5 by the template 'for every input the law returns true; each argument reads behind the call as it read before'; 0 by the template 'total and deterministic' (their statements: YtmaajpkkdpaeeaaTotals.lean).
  GIVEN WITH THE SEED: the statements are not yours to turn. If you find one false, say at which input.
  Laid BY PROGRAM, IN A SANDBOX (cutbox-rows.mjs): the forced cells as the released guide's own fill.sh prints them over the translation e4a7423fdc930308… (all of the seat's roots in one cut). By AI agents, Wed Nov 11 2026. No macro, syntax, notation, axiom, sorry.
-/
import Derived.Test.YtmaajpkkdpaeeaaChecked
import GoSem.Claim
import GoSem.ClaimJoined
import GoSem.ClaimMapViews
import Derived.JoinedTies
import Derived.KernelRfl
namespace Go.Proofs.Ytmaajpkkdpaeeaa
/- THE CELL 'sum', in the pinned program and in every row, IS THE sha256 OF THE DUMP (.gsa) THAT YtmaajpkkdpaeeaaProg.lean LOADS. Nothing in Lean hashes anything: it is a label: what it is worth is what the hold of that sum in a sandbox is worth. -/
noncomputable def Try.pinned : Pinned := { name := "ytmaajpkkdpaeeaa", sum := "e4a7423fdc930308ecf82220f5bd100f6cdac0dd69d57ba5aa05e152e993c758", checked := Try.checked }
namespace Rows
def none {H : Type} : Left H := { results := [], args := [] }

/-- 'tramwaylaw14.SyncStops': WHATEVER THE INPUT: true; the input reads as it did. -/
def syncStopsSpec : ChangeSpec := { name := "syncStops", fn := fun _ => fun
  | [d1, d2, d3] => { results := [.lit (.bool true)], args := [d1, d2, d3] }
  | _ => none }
def syncStopsRow : OpenClaim := { program := "ytmaajpkkdpaeeaa", sum := "e4a7423fdc930308ecf82220f5bd100f6cdac0dd69d57ba5aa05e152e993c758", func := "tramway/tramwaylaw14.SyncStops", spec := "syncStops", apart := false }
def SyncStopsSaid : Prop := syncStopsRow.holds Try.pinned (OpenSpec.ofChange syncStopsSpec)

/-- ITS FALSE NEIGHBOUR: 'it returns false'. Refute it at one input. -/
def syncStopsWrong : ChangeSpec := { name := "syncStops", fn := fun _ => fun
  | [d1, d2, d3] => { results := [.lit (.bool false)], args := [d1, d2, d3] }
  | _ => none }
def SyncStopsWrongFalsely : Prop := syncStopsRow.holds Try.pinned (OpenSpec.ofChange syncStopsWrong)

/-- 'tramwaylaw14.SyncAll': WHATEVER THE INPUT: true; the input reads as it did. -/
def syncAllSpec : ChangeSpec := { name := "syncAll", fn := fun _ => fun
  | [d1, d2] => { results := [.lit (.bool true)], args := [d1, d2] }
  | _ => none }
def syncAllRow : OpenClaim := { program := "ytmaajpkkdpaeeaa", sum := "e4a7423fdc930308ecf82220f5bd100f6cdac0dd69d57ba5aa05e152e993c758", func := "tramway/tramwaylaw14.SyncAll", spec := "syncAll", apart := false }
def SyncAllSaid : Prop := syncAllRow.holds Try.pinned (OpenSpec.ofChange syncAllSpec)

/-- ITS FALSE NEIGHBOUR: 'it returns false'. Refute it at one input. -/
def syncAllWrong : ChangeSpec := { name := "syncAll", fn := fun _ => fun
  | [d1, d2] => { results := [.lit (.bool false)], args := [d1, d2] }
  | _ => none }
def SyncAllWrongFalsely : Prop := syncAllRow.holds Try.pinned (OpenSpec.ofChange syncAllWrong)

/-- 'tramwaylaw14.SyncTells': WHATEVER THE INPUT: true; the input reads as it did. -/
def syncTellsSpec : ChangeSpec := { name := "syncTells", fn := fun _ => fun
  | [d1, d2, d3] => { results := [.lit (.bool true)], args := [d1, d2, d3] }
  | _ => none }
def syncTellsRow : OpenClaim := { program := "ytmaajpkkdpaeeaa", sum := "e4a7423fdc930308ecf82220f5bd100f6cdac0dd69d57ba5aa05e152e993c758", func := "tramway/tramwaylaw14.SyncTells", spec := "syncTells", apart := false }
def SyncTellsSaid : Prop := syncTellsRow.holds Try.pinned (OpenSpec.ofChange syncTellsSpec)

/-- ITS FALSE NEIGHBOUR: 'it returns false'. Refute it at one input. -/
def syncTellsWrong : ChangeSpec := { name := "syncTells", fn := fun _ => fun
  | [d1, d2, d3] => { results := [.lit (.bool false)], args := [d1, d2, d3] }
  | _ => none }
def SyncTellsWrongFalsely : Prop := syncTellsRow.holds Try.pinned (OpenSpec.ofChange syncTellsWrong)

/-- 'tramwaylaw14.SyncWindow': WHATEVER THE INPUT: true; the input reads as it did. -/
def syncWindowSpec : ChangeSpec := { name := "syncWindow", fn := fun _ => fun
  | [d1, d2] => { results := [.lit (.bool true)], args := [d1, d2] }
  | _ => none }
def syncWindowRow : OpenClaim := { program := "ytmaajpkkdpaeeaa", sum := "e4a7423fdc930308ecf82220f5bd100f6cdac0dd69d57ba5aa05e152e993c758", func := "tramway/tramwaylaw14.SyncWindow", spec := "syncWindow", apart := false }
def SyncWindowSaid : Prop := syncWindowRow.holds Try.pinned (OpenSpec.ofChange syncWindowSpec)

/-- ITS FALSE NEIGHBOUR: 'it returns false'. Refute it at one input. -/
def syncWindowWrong : ChangeSpec := { name := "syncWindow", fn := fun _ => fun
  | [d1, d2] => { results := [.lit (.bool false)], args := [d1, d2] }
  | _ => none }
def SyncWindowWrongFalsely : Prop := syncWindowRow.holds Try.pinned (OpenSpec.ofChange syncWindowWrong)

/-- 'tramwaylaw14.SyncCounts': WHATEVER THE INPUT: true; the input reads as it did. -/
def syncCountsSpec : ChangeSpec := { name := "syncCounts", fn := fun _ => fun
  | [d1, d2, d3] => { results := [.lit (.bool true)], args := [d1, d2, d3] }
  | _ => none }
def syncCountsRow : OpenClaim := { program := "ytmaajpkkdpaeeaa", sum := "e4a7423fdc930308ecf82220f5bd100f6cdac0dd69d57ba5aa05e152e993c758", func := "tramway/tramwaylaw14.SyncCounts", spec := "syncCounts", apart := false }
def SyncCountsSaid : Prop := syncCountsRow.holds Try.pinned (OpenSpec.ofChange syncCountsSpec)

/-- ITS FALSE NEIGHBOUR: 'it returns false'. Refute it at one input. -/
def syncCountsWrong : ChangeSpec := { name := "syncCounts", fn := fun _ => fun
  | [d1, d2, d3] => { results := [.lit (.bool false)], args := [d1, d2, d3] }
  | _ => none }
def SyncCountsWrongFalsely : Prop := syncCountsRow.holds Try.pinned (OpenSpec.ofChange syncCountsWrong)

/- THE SECOND FORM. 'bulk': how many values and letters a reading holds, each counted each time it is reached (what is shared counts as often as it is met; a slice's spare places count too). A statement '..UptoSaid' is the law's where the arguments, and the package variables that the reading takes, are together of bulk at most 1048576: NARROWER than '..Said'. Prove '..Said' where nothing that the law and all that it calls make is longer than what came in: it says more and counts as full. Else prove '..UptoSaid'. A law counts once. -/
mutual
def uptoBulk {H : Type} : DataW H → Nat
  | .lit (.string bytes) => bytes.length + 1
  | .lit _ => 1
  | .nil => 1
  | .ptr d => uptoBulk d + 1
  | .slice elems spare => uptoBulkAll elems + uptoBulkAll spare + 1
  | .agg parts => uptoBulkAll parts + 1
  | .iface _ d => uptoBulk d + 1
  | .map entries => uptoBulkEntries entries + 1
  | .held _ => 1
def uptoBulkAll {H : Type} : List (DataW H) → Nat
  | [] => 0
  | d :: r => uptoBulk d + uptoBulkAll r
def uptoBulkEntries {H : Type} : List (Lit × DataW H) → Nat
  | [] => 0
  | x :: r => uptoBulkEntry x + uptoBulkEntries r
def uptoBulkEntry {H : Type} : Lit × DataW H → Nat
  | (.string bytes, d) => bytes.length + uptoBulk d + 1
  | (_, d) => uptoBulk d + 1
 end
def uptoSmall : (H : Type) → List (DataW H) → Bool := fun _ ds => decide (uptoBulkAll ds ≤ 1048576)
def OpenSpec.upto (s : _root_.Go.ChangeSpec) : _root_.Go.OpenSpec := { _root_.Go.OpenSpec.ofChange s with cond := some uptoSmall }

/-- 'tramwaylaw14.SyncStops', WHERE WHAT IT READS IS OF BULK AT MOST 1048576: true; the input reads as it did. -/
def syncStopsUptoRow : OpenClaim := { program := "ytmaajpkkdpaeeaa", sum := "e4a7423fdc930308ecf82220f5bd100f6cdac0dd69d57ba5aa05e152e993c758", func := "tramway/tramwaylaw14.SyncStops", spec := "syncStops", apart := false, narrowed := true }
def SyncStopsUptoSaid : Prop := syncStopsUptoRow.holds Try.pinned (OpenSpec.upto syncStopsSpec)

/-- 'tramwaylaw14.SyncAll', WHERE WHAT IT READS IS OF BULK AT MOST 1048576: true; the input reads as it did. -/
def syncAllUptoRow : OpenClaim := { program := "ytmaajpkkdpaeeaa", sum := "e4a7423fdc930308ecf82220f5bd100f6cdac0dd69d57ba5aa05e152e993c758", func := "tramway/tramwaylaw14.SyncAll", spec := "syncAll", apart := false, narrowed := true }
def SyncAllUptoSaid : Prop := syncAllUptoRow.holds Try.pinned (OpenSpec.upto syncAllSpec)

/-- 'tramwaylaw14.SyncTells', WHERE WHAT IT READS IS OF BULK AT MOST 1048576: true; the input reads as it did. -/
def syncTellsUptoRow : OpenClaim := { program := "ytmaajpkkdpaeeaa", sum := "e4a7423fdc930308ecf82220f5bd100f6cdac0dd69d57ba5aa05e152e993c758", func := "tramway/tramwaylaw14.SyncTells", spec := "syncTells", apart := false, narrowed := true }
def SyncTellsUptoSaid : Prop := syncTellsUptoRow.holds Try.pinned (OpenSpec.upto syncTellsSpec)

/-- 'tramwaylaw14.SyncWindow', WHERE WHAT IT READS IS OF BULK AT MOST 1048576: true; the input reads as it did. -/
def syncWindowUptoRow : OpenClaim := { program := "ytmaajpkkdpaeeaa", sum := "e4a7423fdc930308ecf82220f5bd100f6cdac0dd69d57ba5aa05e152e993c758", func := "tramway/tramwaylaw14.SyncWindow", spec := "syncWindow", apart := false, narrowed := true }
def SyncWindowUptoSaid : Prop := syncWindowUptoRow.holds Try.pinned (OpenSpec.upto syncWindowSpec)

/-- 'tramwaylaw14.SyncCounts', WHERE WHAT IT READS IS OF BULK AT MOST 1048576: true; the input reads as it did. -/
def syncCountsUptoRow : OpenClaim := { program := "ytmaajpkkdpaeeaa", sum := "e4a7423fdc930308ecf82220f5bd100f6cdac0dd69d57ba5aa05e152e993c758", func := "tramway/tramwaylaw14.SyncCounts", spec := "syncCounts", apart := false, narrowed := true }
def SyncCountsUptoSaid : Prop := syncCountsUptoRow.holds Try.pinned (OpenSpec.upto syncCountsSpec)

end Rows
end Go.Proofs.Ytmaajpkkdpaeeaa
