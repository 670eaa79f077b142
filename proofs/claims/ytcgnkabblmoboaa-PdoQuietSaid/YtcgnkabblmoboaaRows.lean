/-
  No cell of these rows narrows 'for every input' (looked for: loops, veiled, ifaces, maps, wideKeys, modest, calm, conditions, laid).
  DERIVED. THE GIVEN ROWS OF THIS SEAT. 5 by the template 'for every input the law returns true; each argument reads behind the call as it read before'; 0 by the template 'total and deterministic' (their statements: YtcgnkabblmoboaaTotals.lean).
  GIVEN WITH THE SEED: the statements are not yours to turn. If you find one false, say at which input.
  Laid BY PROGRAM, IN A SANDBOX (cutbox-rows.mjs): the forced cells as the released guide's own fill.sh prints them over the translation 9df80bcebe2f2f5f… (all of the seat's roots in one cut). By AI agents, Wed Nov 11 2026. No macro, syntax, notation, axiom, sorry.
-/
import Derived.Test.YtcgnkabblmoboaaChecked
import GoSem.Claim
import GoSem.ClaimJoined
import GoSem.ClaimMapViews
import Derived.JoinedTies
import Derived.KernelRfl
namespace Go.Proofs.Ytcgnkabblmoboaa
/- THE CELL 'sum', in the pinned program and in every row, IS THE sha256 OF THE DUMP (.gsa) THAT YtcgnkabblmoboaaProg.lean LOADS. Nothing in Lean hashes anything: it is a label: what it is worth is what the hold of that sum in a sandbox is worth. -/
noncomputable def Try.pinned : Pinned := { name := "ytcgnkabblmoboaa", sum := "9df80bcebe2f2f5fb15f02ffb5b8bf0a05a1e2c8e442a89dad2092945f06917b", checked := Try.checked }
namespace Rows
def none {H : Type} : Left H := { results := [], args := [] }

/-- 'tramwaylaw15.PdoTakes': WHATEVER THE INPUT: true; the input reads as it did. -/
def pdoTakesSpec : ChangeSpec := { name := "pdoTakes", fn := fun _ => fun
  | [d1, d2] => { results := [.lit (.bool true)], args := [d1, d2] }
  | _ => none }
def pdoTakesRow : OpenClaim := { program := "ytcgnkabblmoboaa", sum := "9df80bcebe2f2f5fb15f02ffb5b8bf0a05a1e2c8e442a89dad2092945f06917b", func := "tramway/tramwaylaw15.PdoTakes", spec := "pdoTakes", apart := false }
def PdoTakesSaid : Prop := pdoTakesRow.holds Try.pinned (OpenSpec.ofChange pdoTakesSpec)

/-- ITS FALSE NEIGHBOUR: 'it returns false'. Refute it at one input. -/
def pdoTakesWrong : ChangeSpec := { name := "pdoTakes", fn := fun _ => fun
  | [d1, d2] => { results := [.lit (.bool false)], args := [d1, d2] }
  | _ => none }
def PdoTakesWrongFalsely : Prop := pdoTakesRow.holds Try.pinned (OpenSpec.ofChange pdoTakesWrong)

/-- 'tramwaylaw15.PdoQuiet': WHATEVER THE INPUT: true; the input reads as it did. -/
def pdoQuietSpec : ChangeSpec := { name := "pdoQuiet", fn := fun _ => fun
  | [d1, d2] => { results := [.lit (.bool true)], args := [d1, d2] }
  | _ => none }
def pdoQuietRow : OpenClaim := { program := "ytcgnkabblmoboaa", sum := "9df80bcebe2f2f5fb15f02ffb5b8bf0a05a1e2c8e442a89dad2092945f06917b", func := "tramway/tramwaylaw15.PdoQuiet", spec := "pdoQuiet", apart := false }
def PdoQuietSaid : Prop := pdoQuietRow.holds Try.pinned (OpenSpec.ofChange pdoQuietSpec)

/-- ITS FALSE NEIGHBOUR: 'it returns false'. Refute it at one input. -/
def pdoQuietWrong : ChangeSpec := { name := "pdoQuiet", fn := fun _ => fun
  | [d1, d2] => { results := [.lit (.bool false)], args := [d1, d2] }
  | _ => none }
def PdoQuietWrongFalsely : Prop := pdoQuietRow.holds Try.pinned (OpenSpec.ofChange pdoQuietWrong)

/-- 'tramwaylaw15.PdoCyclic': WHATEVER THE INPUT: true; the input reads as it did. -/
def pdoCyclicSpec : ChangeSpec := { name := "pdoCyclic", fn := fun _ => fun
  | [d1, d2] => { results := [.lit (.bool true)], args := [d1, d2] }
  | _ => none }
def pdoCyclicRow : OpenClaim := { program := "ytcgnkabblmoboaa", sum := "9df80bcebe2f2f5fb15f02ffb5b8bf0a05a1e2c8e442a89dad2092945f06917b", func := "tramway/tramwaylaw15.PdoCyclic", spec := "pdoCyclic", apart := false }
def PdoCyclicSaid : Prop := pdoCyclicRow.holds Try.pinned (OpenSpec.ofChange pdoCyclicSpec)

/-- ITS FALSE NEIGHBOUR: 'it returns false'. Refute it at one input. -/
def pdoCyclicWrong : ChangeSpec := { name := "pdoCyclic", fn := fun _ => fun
  | [d1, d2] => { results := [.lit (.bool false)], args := [d1, d2] }
  | _ => none }
def PdoCyclicWrongFalsely : Prop := pdoCyclicRow.holds Try.pinned (OpenSpec.ofChange pdoCyclicWrong)

/-- 'tramwaylaw15.PdoStops': WHATEVER THE INPUT: true; the input reads as it did. -/
def pdoStopsSpec : ChangeSpec := { name := "pdoStops", fn := fun _ => fun
  | [d1, d2, d3] => { results := [.lit (.bool true)], args := [d1, d2, d3] }
  | _ => none }
def pdoStopsRow : OpenClaim := { program := "ytcgnkabblmoboaa", sum := "9df80bcebe2f2f5fb15f02ffb5b8bf0a05a1e2c8e442a89dad2092945f06917b", func := "tramway/tramwaylaw15.PdoStops", spec := "pdoStops", apart := false }
def PdoStopsSaid : Prop := pdoStopsRow.holds Try.pinned (OpenSpec.ofChange pdoStopsSpec)

/-- ITS FALSE NEIGHBOUR: 'it returns false'. Refute it at one input. -/
def pdoStopsWrong : ChangeSpec := { name := "pdoStops", fn := fun _ => fun
  | [d1, d2, d3] => { results := [.lit (.bool false)], args := [d1, d2, d3] }
  | _ => none }
def PdoStopsWrongFalsely : Prop := pdoStopsRow.holds Try.pinned (OpenSpec.ofChange pdoStopsWrong)

/-- 'tramwaylaw15.PdoSends': WHATEVER THE INPUT: true; the input reads as it did. -/
def pdoSendsSpec : ChangeSpec := { name := "pdoSends", fn := fun _ => fun
  | [d1, d2] => { results := [.lit (.bool true)], args := [d1, d2] }
  | _ => none }
def pdoSendsRow : OpenClaim := { program := "ytcgnkabblmoboaa", sum := "9df80bcebe2f2f5fb15f02ffb5b8bf0a05a1e2c8e442a89dad2092945f06917b", func := "tramway/tramwaylaw15.PdoSends", spec := "pdoSends", apart := false }
def PdoSendsSaid : Prop := pdoSendsRow.holds Try.pinned (OpenSpec.ofChange pdoSendsSpec)

/-- ITS FALSE NEIGHBOUR: 'it returns false'. Refute it at one input. -/
def pdoSendsWrong : ChangeSpec := { name := "pdoSends", fn := fun _ => fun
  | [d1, d2] => { results := [.lit (.bool false)], args := [d1, d2] }
  | _ => none }
def PdoSendsWrongFalsely : Prop := pdoSendsRow.holds Try.pinned (OpenSpec.ofChange pdoSendsWrong)

/- THE SECOND FORM. 'bulk': how many values and letters a reading holds, each counted each time it is reached (what is shared counts as often as it is met; a slice's spare places count too). A statement '..UptoSaid' is the law's where the arguments, and the package variables that the reading takes, are together of bulk at most 1048576: NARROWER than '..Said'. Prove '..Said' where nothing that the law and all that it calls make is longer than what came in: it says more and counts as full. Else prove '..UptoSaid'. A law counts once. -/
mutual
def uptoBulk {H : Type} : DataW H → Nat
  | .lit (.string bytes) => bytes.length + 1
  | .lit _ => 1
  | .nil => 1
  | .ptr d => uptoBulk d + 1
  | .slice elems spare => uptoBulkAll elems + uptoBulkAll spare + 1
  | .agg parts => uptoBulkAll parts + 1
  | .iface _ d => uptoBulk d + 1
  | .map entries => uptoBulkEntries entries + 1
  | .held _ => 1
def uptoBulkAll {H : Type} : List (DataW H) → Nat
  | [] => 0
  | d :: r => uptoBulk d + uptoBulkAll r
def uptoBulkEntries {H : Type} : List (Lit × DataW H) → Nat
  | [] => 0
  | x :: r => uptoBulkEntry x + uptoBulkEntries r
def uptoBulkEntry {H : Type} : Lit × DataW H → Nat
  | (.string bytes, d) => bytes.length + uptoBulk d + 1
  | (_, d) => uptoBulk d + 1
 end
def uptoSmall : (H : Type) → List (DataW H) → Bool := fun _ ds => decide (uptoBulkAll ds ≤ 1048576)
def OpenSpec.upto (s : _root_.Go.ChangeSpec) : _root_.Go.OpenSpec := { _root_.Go.OpenSpec.ofChange s with cond := some uptoSmall }

/-- 'tramwaylaw15.PdoTakes', WHERE WHAT IT READS IS OF BULK AT MOST 1048576: true; the input reads as it did. -/
def pdoTakesUptoRow : OpenClaim := { program := "ytcgnkabblmoboaa", sum := "9df80bcebe2f2f5fb15f02ffb5b8bf0a05a1e2c8e442a89dad2092945f06917b", func := "tramway/tramwaylaw15.PdoTakes", spec := "pdoTakes", apart := false, narrowed := true }
def PdoTakesUptoSaid : Prop := pdoTakesUptoRow.holds Try.pinned (OpenSpec.upto pdoTakesSpec)

/-- 'tramwaylaw15.PdoQuiet', WHERE WHAT IT READS IS OF BULK AT MOST 1048576: true; the input reads as it did. -/
def pdoQuietUptoRow : OpenClaim := { program := "ytcgnkabblmoboaa", sum := "9df80bcebe2f2f5fb15f02ffb5b8bf0a05a1e2c8e442a89dad2092945f06917b", func := "tramway/tramwaylaw15.PdoQuiet", spec := "pdoQuiet", apart := false, narrowed := true }
def PdoQuietUptoSaid : Prop := pdoQuietUptoRow.holds Try.pinned (OpenSpec.upto pdoQuietSpec)

/-- 'tramwaylaw15.PdoCyclic', WHERE WHAT IT READS IS OF BULK AT MOST 1048576: true; the input reads as it did. -/
def pdoCyclicUptoRow : OpenClaim := { program := "ytcgnkabblmoboaa", sum := "9df80bcebe2f2f5fb15f02ffb5b8bf0a05a1e2c8e442a89dad2092945f06917b", func := "tramway/tramwaylaw15.PdoCyclic", spec := "pdoCyclic", apart := false, narrowed := true }
def PdoCyclicUptoSaid : Prop := pdoCyclicUptoRow.holds Try.pinned (OpenSpec.upto pdoCyclicSpec)

/-- 'tramwaylaw15.PdoStops', WHERE WHAT IT READS IS OF BULK AT MOST 1048576: true; the input reads as it did. -/
def pdoStopsUptoRow : OpenClaim := { program := "ytcgnkabblmoboaa", sum := "9df80bcebe2f2f5fb15f02ffb5b8bf0a05a1e2c8e442a89dad2092945f06917b", func := "tramway/tramwaylaw15.PdoStops", spec := "pdoStops", apart := false, narrowed := true }
def PdoStopsUptoSaid : Prop := pdoStopsUptoRow.holds Try.pinned (OpenSpec.upto pdoStopsSpec)

/-- 'tramwaylaw15.PdoSends', WHERE WHAT IT READS IS OF BULK AT MOST 1048576: true; the input reads as it did. -/
def pdoSendsUptoRow : OpenClaim := { program := "ytcgnkabblmoboaa", sum := "9df80bcebe2f2f5fb15f02ffb5b8bf0a05a1e2c8e442a89dad2092945f06917b", func := "tramway/tramwaylaw15.PdoSends", spec := "pdoSends", apart := false, narrowed := true }
def PdoSendsUptoSaid : Prop := pdoSendsUptoRow.holds Try.pinned (OpenSpec.upto pdoSendsSpec)

end Rows
end Go.Proofs.Ytcgnkabblmoboaa
