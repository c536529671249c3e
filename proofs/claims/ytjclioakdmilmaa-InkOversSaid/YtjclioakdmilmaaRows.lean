/-
  No cell of these rows narrows 'for every input' (looked for: loops, veiled, ifaces, maps, wideKeys, modest, calm, conditions, laid).
  DERIVED. THE GIVEN ROWS OF THIS SEAT. 6 by the template 'for every input the law returns true; each argument reads behind the call as it read before'; 0 by the template 'total and deterministic' (their statements: YtjclioakdmilmaaTotals.lean).
  GIVEN WITH THE SEED: the statements are not yours to turn. If you find one false, say at which input.
  Laid BY PROGRAM, IN A SANDBOX (cutbox-rows.mjs): the forced cells as the released guide's own fill.sh prints them over the translation 7c9e0f7d502bd851… (all of the seat's roots in one cut). By AI agents, Wed Nov 11 2026. No macro, syntax, notation, axiom, sorry.
-/
import Derived.Test.YtjclioakdmilmaaChecked
import GoSem.Claim
import GoSem.ClaimJoined
import GoSem.ClaimMapViews
import Derived.JoinedTies
import Derived.KernelRfl
namespace Go.Proofs.Ytjclioakdmilmaa
/- THE CELL 'sum', in the pinned program and in every row, IS THE sha256 OF THE DUMP (.gsa) THAT YtjclioakdmilmaaProg.lean LOADS. Nothing in Lean hashes anything: it is a label: what it is worth is what the hold of that sum in a sandbox is worth. -/
noncomputable def Try.pinned : Pinned := { name := "ytjclioakdmilmaa", sum := "7c9e0f7d502bd851defecd13e0e6996c1bd7e0d4286f9d9076689cf509f000af", checked := Try.checked }
namespace Rows
def none {H : Type} : Left H := { results := [], args := [] }

/-- 'mapsheetslaw53.InkChecks': WHATEVER THE INPUT: true; the input reads as it did. -/
def inkChecksSpec : ChangeSpec := { name := "inkChecks", fn := fun _ => fun
  | [d1, d2, d3] => { results := [.lit (.bool true)], args := [d1, d2, d3] }
  | _ => none }
def inkChecksRow : OpenClaim := { program := "ytjclioakdmilmaa", sum := "7c9e0f7d502bd851defecd13e0e6996c1bd7e0d4286f9d9076689cf509f000af", func := "mapsheets/mapsheetslaw53.InkChecks", spec := "inkChecks", unfollowed := true, recurses := true, named := ["math/bits.divideError", "math/bits.overflowError"], apart := false }
def InkChecksSaid : Prop := inkChecksRow.holds Try.pinned (OpenSpec.ofChange inkChecksSpec)

/-- ITS FALSE NEIGHBOUR: 'it returns false'. Refute it at one input. -/
def inkChecksWrong : ChangeSpec := { name := "inkChecks", fn := fun _ => fun
  | [d1, d2, d3] => { results := [.lit (.bool false)], args := [d1, d2, d3] }
  | _ => none }
def InkChecksWrongFalsely : Prop := inkChecksRow.holds Try.pinned (OpenSpec.ofChange inkChecksWrong)

/-- 'mapsheetslaw53.InkPaints': WHATEVER THE INPUT: true; the input reads as it did. -/
def inkPaintsSpec : ChangeSpec := { name := "inkPaints", fn := fun _ => fun
  | [d1, d2, d3] => { results := [.lit (.bool true)], args := [d1, d2, d3] }
  | _ => none }
def inkPaintsRow : OpenClaim := { program := "ytjclioakdmilmaa", sum := "7c9e0f7d502bd851defecd13e0e6996c1bd7e0d4286f9d9076689cf509f000af", func := "mapsheets/mapsheetslaw53.InkPaints", spec := "inkPaints", unfollowed := true, recurses := true, named := ["math/bits.divideError", "math/bits.overflowError"], apart := false }
def InkPaintsSaid : Prop := inkPaintsRow.holds Try.pinned (OpenSpec.ofChange inkPaintsSpec)

/-- ITS FALSE NEIGHBOUR: 'it returns false'. Refute it at one input. -/
def inkPaintsWrong : ChangeSpec := { name := "inkPaints", fn := fun _ => fun
  | [d1, d2, d3] => { results := [.lit (.bool false)], args := [d1, d2, d3] }
  | _ => none }
def InkPaintsWrongFalsely : Prop := inkPaintsRow.holds Try.pinned (OpenSpec.ofChange inkPaintsWrong)

/-- 'mapsheetslaw53.InkOvers': WHATEVER THE INPUT: true; the input reads as it did. -/
def inkOversSpec : ChangeSpec := { name := "inkOvers", fn := fun _ => fun
  | [d1, d2] => { results := [.lit (.bool true)], args := [d1, d2] }
  | _ => none }
def inkOversRow : OpenClaim := { program := "ytjclioakdmilmaa", sum := "7c9e0f7d502bd851defecd13e0e6996c1bd7e0d4286f9d9076689cf509f000af", func := "mapsheets/mapsheetslaw53.InkOvers", spec := "inkOvers", unfollowed := true, recurses := true, named := ["math/bits.divideError", "math/bits.overflowError"], apart := false }
def InkOversSaid : Prop := inkOversRow.holds Try.pinned (OpenSpec.ofChange inkOversSpec)

/-- ITS FALSE NEIGHBOUR: 'it returns false'. Refute it at one input. -/
def inkOversWrong : ChangeSpec := { name := "inkOvers", fn := fun _ => fun
  | [d1, d2] => { results := [.lit (.bool false)], args := [d1, d2] }
  | _ => none }
def InkOversWrongFalsely : Prop := inkOversRow.holds Try.pinned (OpenSpec.ofChange inkOversWrong)

/-- 'mapsheetslaw53.InkLast': WHATEVER THE INPUT: true; the input reads as it did. -/
def inkLastSpec : ChangeSpec := { name := "inkLast", fn := fun _ => fun
  | [d1, d2, d3] => { results := [.lit (.bool true)], args := [d1, d2, d3] }
  | _ => none }
def inkLastRow : OpenClaim := { program := "ytjclioakdmilmaa", sum := "7c9e0f7d502bd851defecd13e0e6996c1bd7e0d4286f9d9076689cf509f000af", func := "mapsheets/mapsheetslaw53.InkLast", spec := "inkLast", unfollowed := true, recurses := true, named := ["math/bits.divideError", "math/bits.overflowError"], apart := false }
def InkLastSaid : Prop := inkLastRow.holds Try.pinned (OpenSpec.ofChange inkLastSpec)

/-- ITS FALSE NEIGHBOUR: 'it returns false'. Refute it at one input. -/
def inkLastWrong : ChangeSpec := { name := "inkLast", fn := fun _ => fun
  | [d1, d2, d3] => { results := [.lit (.bool false)], args := [d1, d2, d3] }
  | _ => none }
def InkLastWrongFalsely : Prop := inkLastRow.holds Try.pinned (OpenSpec.ofChange inkLastWrong)

/-- 'mapsheetslaw53.InkOver': WHATEVER THE INPUT: true; the input reads as it did. -/
def inkOverSpec : ChangeSpec := { name := "inkOver", fn := fun _ => fun
  | [d1, d2, d3, d4] => { results := [.lit (.bool true)], args := [d1, d2, d3, d4] }
  | _ => none }
def inkOverRow : OpenClaim := { program := "ytjclioakdmilmaa", sum := "7c9e0f7d502bd851defecd13e0e6996c1bd7e0d4286f9d9076689cf509f000af", func := "mapsheets/mapsheetslaw53.InkOver", spec := "inkOver", unfollowed := true, recurses := true, named := ["math/bits.divideError", "math/bits.overflowError"], apart := false }
def InkOverSaid : Prop := inkOverRow.holds Try.pinned (OpenSpec.ofChange inkOverSpec)

/-- ITS FALSE NEIGHBOUR: 'it returns false'. Refute it at one input. -/
def inkOverWrong : ChangeSpec := { name := "inkOver", fn := fun _ => fun
  | [d1, d2, d3, d4] => { results := [.lit (.bool false)], args := [d1, d2, d3, d4] }
  | _ => none }
def InkOverWrongFalsely : Prop := inkOverRow.holds Try.pinned (OpenSpec.ofChange inkOverWrong)

/-- 'mapsheetslaw53.InkCells': WHATEVER THE INPUT: true; the input reads as it did. -/
def inkCellsSpec : ChangeSpec := { name := "inkCells", fn := fun _ => fun
  | [d1, d2, d3] => { results := [.lit (.bool true)], args := [d1, d2, d3] }
  | _ => none }
def inkCellsRow : OpenClaim := { program := "ytjclioakdmilmaa", sum := "7c9e0f7d502bd851defecd13e0e6996c1bd7e0d4286f9d9076689cf509f000af", func := "mapsheets/mapsheetslaw53.InkCells", spec := "inkCells", unfollowed := true, recurses := true, named := ["math/bits.divideError", "math/bits.overflowError"], apart := false }
def InkCellsSaid : Prop := inkCellsRow.holds Try.pinned (OpenSpec.ofChange inkCellsSpec)

/-- ITS FALSE NEIGHBOUR: 'it returns false'. Refute it at one input. -/
def inkCellsWrong : ChangeSpec := { name := "inkCells", fn := fun _ => fun
  | [d1, d2, d3] => { results := [.lit (.bool false)], args := [d1, d2, d3] }
  | _ => none }
def InkCellsWrongFalsely : Prop := inkCellsRow.holds Try.pinned (OpenSpec.ofChange inkCellsWrong)

/- THE SECOND FORM. 'bulk': how many values and letters a reading holds, each counted each time it is reached (what is shared counts as often as it is met; a slice's spare places count too). A statement '..UptoSaid' is the law's where the arguments, and the package variables that the reading takes, are together of bulk at most 1048576: NARROWER than '..Said'. Prove '..Said' where nothing that the law and all that it calls make is longer than what came in: it says more and counts as full. Else prove '..UptoSaid'. A law counts once. -/
mutual
def uptoBulk {H : Type} : DataW H → Nat
  | .lit (.string bytes) => bytes.length + 1
  | .lit _ => 1
  | .nil => 1
  | .ptr d => uptoBulk d + 1
  | .slice elems spare => uptoBulkAll elems + uptoBulkAll spare + 1
  | .agg parts => uptoBulkAll parts + 1
  | .iface _ d => uptoBulk d + 1
  | .map entries => uptoBulkEntries entries + 1
  | .held _ => 1
def uptoBulkAll {H : Type} : List (DataW H) → Nat
  | [] => 0
  | d :: r => uptoBulk d + uptoBulkAll r
def uptoBulkEntries {H : Type} : List (Lit × DataW H) → Nat
  | [] => 0
  | x :: r => uptoBulkEntry x + uptoBulkEntries r
def uptoBulkEntry {H : Type} : Lit × DataW H → Nat
  | (.string bytes, d) => bytes.length + uptoBulk d + 1
  | (_, d) => uptoBulk d + 1
 end
def uptoSmall : (H : Type) → List (DataW H) → Bool := fun _ ds => decide (uptoBulkAll ds ≤ 1048576)
def OpenSpec.upto (s : _root_.Go.ChangeSpec) : _root_.Go.OpenSpec := { _root_.Go.OpenSpec.ofChange s with cond := some uptoSmall }

/-- 'mapsheetslaw53.InkChecks', WHERE WHAT IT READS IS OF BULK AT MOST 1048576: true; the input reads as it did. -/
def inkChecksUptoRow : OpenClaim := { program := "ytjclioakdmilmaa", sum := "7c9e0f7d502bd851defecd13e0e6996c1bd7e0d4286f9d9076689cf509f000af", func := "mapsheets/mapsheetslaw53.InkChecks", spec := "inkChecks", unfollowed := true, recurses := true, named := ["math/bits.divideError", "math/bits.overflowError"], apart := false, narrowed := true }
def InkChecksUptoSaid : Prop := inkChecksUptoRow.holds Try.pinned (OpenSpec.upto inkChecksSpec)

/-- 'mapsheetslaw53.InkPaints', WHERE WHAT IT READS IS OF BULK AT MOST 1048576: true; the input reads as it did. -/
def inkPaintsUptoRow : OpenClaim := { program := "ytjclioakdmilmaa", sum := "7c9e0f7d502bd851defecd13e0e6996c1bd7e0d4286f9d9076689cf509f000af", func := "mapsheets/mapsheetslaw53.InkPaints", spec := "inkPaints", unfollowed := true, recurses := true, named := ["math/bits.divideError", "math/bits.overflowError"], apart := false, narrowed := true }
def InkPaintsUptoSaid : Prop := inkPaintsUptoRow.holds Try.pinned (OpenSpec.upto inkPaintsSpec)

/-- 'mapsheetslaw53.InkOvers', WHERE WHAT IT READS IS OF BULK AT MOST 1048576: true; the input reads as it did. -/
def inkOversUptoRow : OpenClaim := { program := "ytjclioakdmilmaa", sum := "7c9e0f7d502bd851defecd13e0e6996c1bd7e0d4286f9d9076689cf509f000af", func := "mapsheets/mapsheetslaw53.InkOvers", spec := "inkOvers", unfollowed := true, recurses := true, named := ["math/bits.divideError", "math/bits.overflowError"], apart := false, narrowed := true }
def InkOversUptoSaid : Prop := inkOversUptoRow.holds Try.pinned (OpenSpec.upto inkOversSpec)

/-- 'mapsheetslaw53.InkLast', WHERE WHAT IT READS IS OF BULK AT MOST 1048576: true; the input reads as it did. -/
def inkLastUptoRow : OpenClaim := { program := "ytjclioakdmilmaa", sum := "7c9e0f7d502bd851defecd13e0e6996c1bd7e0d4286f9d9076689cf509f000af", func := "mapsheets/mapsheetslaw53.InkLast", spec := "inkLast", unfollowed := true, recurses := true, named := ["math/bits.divideError", "math/bits.overflowError"], apart := false, narrowed := true }
def InkLastUptoSaid : Prop := inkLastUptoRow.holds Try.pinned (OpenSpec.upto inkLastSpec)

/-- 'mapsheetslaw53.InkOver', WHERE WHAT IT READS IS OF BULK AT MOST 1048576: true; the input reads as it did. -/
def inkOverUptoRow : OpenClaim := { program := "ytjclioakdmilmaa", sum := "7c9e0f7d502bd851defecd13e0e6996c1bd7e0d4286f9d9076689cf509f000af", func := "mapsheets/mapsheetslaw53.InkOver", spec := "inkOver", unfollowed := true, recurses := true, named := ["math/bits.divideError", "math/bits.overflowError"], apart := false, narrowed := true }
def InkOverUptoSaid : Prop := inkOverUptoRow.holds Try.pinned (OpenSpec.upto inkOverSpec)

/-- 'mapsheetslaw53.InkCells', WHERE WHAT IT READS IS OF BULK AT MOST 1048576: true; the input reads as it did. -/
def inkCellsUptoRow : OpenClaim := { program := "ytjclioakdmilmaa", sum := "7c9e0f7d502bd851defecd13e0e6996c1bd7e0d4286f9d9076689cf509f000af", func := "mapsheets/mapsheetslaw53.InkCells", spec := "inkCells", unfollowed := true, recurses := true, named := ["math/bits.divideError", "math/bits.overflowError"], apart := false, narrowed := true }
def InkCellsUptoSaid : Prop := inkCellsUptoRow.holds Try.pinned (OpenSpec.upto inkCellsSpec)

end Rows
end Go.Proofs.Ytjclioakdmilmaa
