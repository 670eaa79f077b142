/-
  No cell of these rows narrows 'for every input' (looked for: loops, veiled, ifaces, maps, wideKeys, modest, calm, conditions, laid).
  DERIVED. THE GIVEN ROWS OF THIS SEAT. 4 by the template 'for every input the law returns true; each argument reads behind the call as it read before'; 0 by the template 'total and deterministic' (their statements: YtagklcmkdjgblaaTotals.lean).
  GIVEN WITH THE SEED: the statements are not yours to turn. If you find one false, say at which input.
  Laid BY PROGRAM, IN A SANDBOX (cutbox-rows.mjs): the forced cells as the released guide's own fill.sh prints them over the translation 0017e399f8d2320e… (all of the seat's roots in one cut). By AI agents, Wed Nov 11 2026. No macro, syntax, notation, axiom, sorry.
-/
import Derived.Test.YtagklcmkdjgblaaChecked
import GoSem.Claim
import GoSem.ClaimJoined
import GoSem.ClaimMapViews
import Derived.JoinedTies
import Derived.KernelRfl
namespace Go.Proofs.Ytagklcmkdjgblaa
/- THE CELL 'sum', in the pinned program and in every row, IS THE sha256 OF THE DUMP (.gsa) THAT YtagklcmkdjgblaaProg.lean LOADS. Nothing in Lean hashes anything: it is a label: what it is worth is what the hold of that sum in a sandbox is worth. -/
noncomputable def Try.pinned : Pinned := { name := "ytagklcmkdjgblaa", sum := "0017e399f8d2320eb2be5efca8c221944e8fc710c6ed4103310a50fd68264c92", checked := Try.checked }
namespace Rows
def none {H : Type} : Left H := { results := [], args := [] }

/-- 'tramwaylaw16.EmcyQuiet': WHATEVER THE INPUT: true; the input reads as it did. -/
def emcyQuietSpec : ChangeSpec := { name := "emcyQuiet", fn := fun _ => fun
  | [d1, d2, d3] => { results := [.lit (.bool true)], args := [d1, d2, d3] }
  | _ => none }
def emcyQuietRow : OpenClaim := { program := "ytagklcmkdjgblaa", sum := "0017e399f8d2320eb2be5efca8c221944e8fc710c6ed4103310a50fd68264c92", func := "tramway/tramwaylaw16.EmcyQuiet", spec := "emcyQuiet", inPlace := ["slices.overlaps[tramway/api.Trouble]"], unfollowed := true, recurses := true, apart := false }
def EmcyQuietSaid : Prop := emcyQuietRow.holds Try.pinned (OpenSpec.ofChange emcyQuietSpec)

/-- ITS FALSE NEIGHBOUR: 'it returns false'. Refute it at one input. -/
def emcyQuietWrong : ChangeSpec := { name := "emcyQuiet", fn := fun _ => fun
  | [d1, d2, d3] => { results := [.lit (.bool false)], args := [d1, d2, d3] }
  | _ => none }
def EmcyQuietWrongFalsely : Prop := emcyQuietRow.holds Try.pinned (OpenSpec.ofChange emcyQuietWrong)

/-- 'tramwaylaw16.EmcyAll': WHATEVER THE INPUT: true; the input reads as it did. -/
def emcyAllSpec : ChangeSpec := { name := "emcyAll", fn := fun _ => fun
  | [d1, d2] => { results := [.lit (.bool true)], args := [d1, d2] }
  | _ => none }
def emcyAllRow : OpenClaim := { program := "ytagklcmkdjgblaa", sum := "0017e399f8d2320eb2be5efca8c221944e8fc710c6ed4103310a50fd68264c92", func := "tramway/tramwaylaw16.EmcyAll", spec := "emcyAll", inPlace := ["slices.overlaps[tramway/api.Trouble]"], unfollowed := true, recurses := true, apart := false }
def EmcyAllSaid : Prop := emcyAllRow.holds Try.pinned (OpenSpec.ofChange emcyAllSpec)

/-- ITS FALSE NEIGHBOUR: 'it returns false'. Refute it at one input. -/
def emcyAllWrong : ChangeSpec := { name := "emcyAll", fn := fun _ => fun
  | [d1, d2] => { results := [.lit (.bool false)], args := [d1, d2] }
  | _ => none }
def EmcyAllWrongFalsely : Prop := emcyAllRow.holds Try.pinned (OpenSpec.ofChange emcyAllWrong)

/-- 'tramwaylaw16.EmcyHistory': WHATEVER THE INPUT: true; the input reads as it did. -/
def emcyHistorySpec : ChangeSpec := { name := "emcyHistory", fn := fun _ => fun
  | [d1, d2] => { results := [.lit (.bool true)], args := [d1, d2] }
  | _ => none }
def emcyHistoryRow : OpenClaim := { program := "ytagklcmkdjgblaa", sum := "0017e399f8d2320eb2be5efca8c221944e8fc710c6ed4103310a50fd68264c92", func := "tramway/tramwaylaw16.EmcyHistory", spec := "emcyHistory", inPlace := ["slices.overlaps[tramway/api.Trouble]"], unfollowed := true, recurses := true, apart := false }
def EmcyHistorySaid : Prop := emcyHistoryRow.holds Try.pinned (OpenSpec.ofChange emcyHistorySpec)

/-- ITS FALSE NEIGHBOUR: 'it returns false'. Refute it at one input. -/
def emcyHistoryWrong : ChangeSpec := { name := "emcyHistory", fn := fun _ => fun
  | [d1, d2] => { results := [.lit (.bool false)], args := [d1, d2] }
  | _ => none }
def EmcyHistoryWrongFalsely : Prop := emcyHistoryRow.holds Try.pinned (OpenSpec.ofChange emcyHistoryWrong)

/-- 'tramwaylaw16.EmcyTells': WHATEVER THE INPUT: true; the input reads as it did. -/
def emcyTellsSpec : ChangeSpec := { name := "emcyTells", fn := fun _ => fun
  | [d1, d2, d3] => { results := [.lit (.bool true)], args := [d1, d2, d3] }
  | _ => none }
def emcyTellsRow : OpenClaim := { program := "ytagklcmkdjgblaa", sum := "0017e399f8d2320eb2be5efca8c221944e8fc710c6ed4103310a50fd68264c92", func := "tramway/tramwaylaw16.EmcyTells", spec := "emcyTells", inPlace := ["slices.overlaps[tramway/api.Trouble]"], unfollowed := true, recurses := true, apart := false }
def EmcyTellsSaid : Prop := emcyTellsRow.holds Try.pinned (OpenSpec.ofChange emcyTellsSpec)

/-- ITS FALSE NEIGHBOUR: 'it returns false'. Refute it at one input. -/
def emcyTellsWrong : ChangeSpec := { name := "emcyTells", fn := fun _ => fun
  | [d1, d2, d3] => { results := [.lit (.bool false)], args := [d1, d2, d3] }
  | _ => none }
def EmcyTellsWrongFalsely : Prop := emcyTellsRow.holds Try.pinned (OpenSpec.ofChange emcyTellsWrong)

/- THE SECOND FORM. 'bulk': how many values and letters a reading holds, each counted each time it is reached (what is shared counts as often as it is met; a slice's spare places count too). A statement '..UptoSaid' is the law's where the arguments, and the package variables that the reading takes, are together of bulk at most 1048576: NARROWER than '..Said'. Prove '..Said' where nothing that the law and all that it calls make is longer than what came in: it says more and counts as full. Else prove '..UptoSaid'. A law counts once. -/
mutual
def uptoBulk {H : Type} : DataW H → Nat
  | .lit (.string bytes) => bytes.length + 1
  | .lit _ => 1
  | .nil => 1
  | .ptr d => uptoBulk d + 1
  | .slice elems spare => uptoBulkAll elems + uptoBulkAll spare + 1
  | .agg parts => uptoBulkAll parts + 1
  | .iface _ d => uptoBulk d + 1
  | .map entries => uptoBulkEntries entries + 1
  | .held _ => 1
def uptoBulkAll {H : Type} : List (DataW H) → Nat
  | [] => 0
  | d :: r => uptoBulk d + uptoBulkAll r
def uptoBulkEntries {H : Type} : List (Lit × DataW H) → Nat
  | [] => 0
  | x :: r => uptoBulkEntry x + uptoBulkEntries r
def uptoBulkEntry {H : Type} : Lit × DataW H → Nat
  | (.string bytes, d) => bytes.length + uptoBulk d + 1
  | (_, d) => uptoBulk d + 1
 end
def uptoSmall : (H : Type) → List (DataW H) → Bool := fun _ ds => decide (uptoBulkAll ds ≤ 1048576)
def OpenSpec.upto (s : _root_.Go.ChangeSpec) : _root_.Go.OpenSpec := { _root_.Go.OpenSpec.ofChange s with cond := some uptoSmall }

/-- 'tramwaylaw16.EmcyQuiet', WHERE WHAT IT READS IS OF BULK AT MOST 1048576: true; the input reads as it did. -/
def emcyQuietUptoRow : OpenClaim := { program := "ytagklcmkdjgblaa", sum := "0017e399f8d2320eb2be5efca8c221944e8fc710c6ed4103310a50fd68264c92", func := "tramway/tramwaylaw16.EmcyQuiet", spec := "emcyQuiet", inPlace := ["slices.overlaps[tramway/api.Trouble]"], unfollowed := true, recurses := true, apart := false, narrowed := true }
def EmcyQuietUptoSaid : Prop := emcyQuietUptoRow.holds Try.pinned (OpenSpec.upto emcyQuietSpec)

/-- 'tramwaylaw16.EmcyAll', WHERE WHAT IT READS IS OF BULK AT MOST 1048576: true; the input reads as it did. -/
def emcyAllUptoRow : OpenClaim := { program := "ytagklcmkdjgblaa", sum := "0017e399f8d2320eb2be5efca8c221944e8fc710c6ed4103310a50fd68264c92", func := "tramway/tramwaylaw16.EmcyAll", spec := "emcyAll", inPlace := ["slices.overlaps[tramway/api.Trouble]"], unfollowed := true, recurses := true, apart := false, narrowed := true }
def EmcyAllUptoSaid : Prop := emcyAllUptoRow.holds Try.pinned (OpenSpec.upto emcyAllSpec)

/-- 'tramwaylaw16.EmcyHistory', WHERE WHAT IT READS IS OF BULK AT MOST 1048576: true; the input reads as it did. -/
def emcyHistoryUptoRow : OpenClaim := { program := "ytagklcmkdjgblaa", sum := "0017e399f8d2320eb2be5efca8c221944e8fc710c6ed4103310a50fd68264c92", func := "tramway/tramwaylaw16.EmcyHistory", spec := "emcyHistory", inPlace := ["slices.overlaps[tramway/api.Trouble]"], unfollowed := true, recurses := true, apart := false, narrowed := true }
def EmcyHistoryUptoSaid : Prop := emcyHistoryUptoRow.holds Try.pinned (OpenSpec.upto emcyHistorySpec)

/-- 'tramwaylaw16.EmcyTells', WHERE WHAT IT READS IS OF BULK AT MOST 1048576: true; the input reads as it did. -/
def emcyTellsUptoRow : OpenClaim := { program := "ytagklcmkdjgblaa", sum := "0017e399f8d2320eb2be5efca8c221944e8fc710c6ed4103310a50fd68264c92", func := "tramway/tramwaylaw16.EmcyTells", spec := "emcyTells", inPlace := ["slices.overlaps[tramway/api.Trouble]"], unfollowed := true, recurses := true, apart := false, narrowed := true }
def EmcyTellsUptoSaid : Prop := emcyTellsUptoRow.holds Try.pinned (OpenSpec.upto emcyTellsSpec)

end Rows
end Go.Proofs.Ytagklcmkdjgblaa
