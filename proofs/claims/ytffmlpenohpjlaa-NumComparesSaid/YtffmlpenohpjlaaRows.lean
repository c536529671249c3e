/-
  No cell of these rows narrows 'for every input' (looked for: loops, veiled, ifaces, maps, wideKeys, modest, calm, conditions, laid).
  DERIVED. THE GIVEN ROWS OF THIS SEAT. 8 by the template 'for every input the law returns true; each argument reads behind the call as it read before'; 0 by the template 'total and deterministic' (their statements: YtffmlpenohpjlaaTotals.lean).
  GIVEN WITH THE SEED: the statements are not yours to turn. If you find one false, say at which input.
  Laid BY PROGRAM, IN A SANDBOX (cutbox-rows.mjs): the forced cells as the released guide's own fill.sh prints them over the translation 94ae624ae0bede0d… (all of the seat's roots in one cut). By AI agents, Wed Nov 11 2026. No macro, syntax, notation, axiom, sorry.
-/
import Derived.Test.YtffmlpenohpjlaaChecked
import GoSem.Claim
import GoSem.ClaimJoined
import GoSem.ClaimMapViews
import Derived.JoinedTies
import Derived.KernelRfl
namespace Go.Proofs.Ytffmlpenohpjlaa
/- THE CELL 'sum', in the pinned program and in every row, IS THE sha256 OF THE DUMP (.gsa) THAT YtffmlpenohpjlaaProg.lean LOADS. Nothing in Lean hashes anything: it is a label: what it is worth is what the hold of that sum in a sandbox is worth. -/
noncomputable def Try.pinned : Pinned := { name := "ytffmlpenohpjlaa", sum := "94ae624ae0bede0dc97a58d69b2ee70f484ab387f40d602dbb843d398ca5c8fe", checked := Try.checked }
namespace Rows
def none {H : Type} : Left H := { results := [], args := [] }

/-- 'mapsheetslaw01.NumDivides': WHATEVER THE INPUT: true; the input reads as it did. -/
def numDividesSpec : ChangeSpec := { name := "numDivides", fn := fun _ => fun
  | [d1, d2] => { results := [.lit (.bool true)], args := [d1, d2] }
  | _ => none }
def numDividesRow : OpenClaim := { program := "ytffmlpenohpjlaa", sum := "94ae624ae0bede0dc97a58d69b2ee70f484ab387f40d602dbb843d398ca5c8fe", func := "mapsheets/mapsheetslaw01.NumDivides", spec := "numDivides", named := ["math/bits.divideError", "math/bits.overflowError"], apart := false }
def NumDividesSaid : Prop := numDividesRow.holds Try.pinned (OpenSpec.ofChange numDividesSpec)

/-- ITS FALSE NEIGHBOUR: 'it returns false'. Refute it at one input. -/
def numDividesWrong : ChangeSpec := { name := "numDivides", fn := fun _ => fun
  | [d1, d2] => { results := [.lit (.bool false)], args := [d1, d2] }
  | _ => none }
def NumDividesWrongFalsely : Prop := numDividesRow.holds Try.pinned (OpenSpec.ofChange numDividesWrong)

/-- 'mapsheetslaw01.NumGcd': WHATEVER THE INPUT: true; the input reads as it did. -/
def numGcdSpec : ChangeSpec := { name := "numGcd", fn := fun _ => fun
  | [d1, d2] => { results := [.lit (.bool true)], args := [d1, d2] }
  | _ => none }
def numGcdRow : OpenClaim := { program := "ytffmlpenohpjlaa", sum := "94ae624ae0bede0dc97a58d69b2ee70f484ab387f40d602dbb843d398ca5c8fe", func := "mapsheets/mapsheetslaw01.NumGcd", spec := "numGcd", named := ["math/bits.divideError", "math/bits.overflowError"], apart := false }
def NumGcdSaid : Prop := numGcdRow.holds Try.pinned (OpenSpec.ofChange numGcdSpec)

/-- ITS FALSE NEIGHBOUR: 'it returns false'. Refute it at one input. -/
def numGcdWrong : ChangeSpec := { name := "numGcd", fn := fun _ => fun
  | [d1, d2] => { results := [.lit (.bool false)], args := [d1, d2] }
  | _ => none }
def NumGcdWrongFalsely : Prop := numGcdRow.holds Try.pinned (OpenSpec.ofChange numGcdWrong)

/-- 'mapsheetslaw01.NumProducts': WHATEVER THE INPUT: true; the input reads as it did. -/
def numProductsSpec : ChangeSpec := { name := "numProducts", fn := fun _ => fun
  | [d1, d2, d3] => { results := [.lit (.bool true)], args := [d1, d2, d3] }
  | _ => none }
def numProductsRow : OpenClaim := { program := "ytffmlpenohpjlaa", sum := "94ae624ae0bede0dc97a58d69b2ee70f484ab387f40d602dbb843d398ca5c8fe", func := "mapsheets/mapsheetslaw01.NumProducts", spec := "numProducts", named := ["math/bits.divideError", "math/bits.overflowError"], apart := false }
def NumProductsSaid : Prop := numProductsRow.holds Try.pinned (OpenSpec.ofChange numProductsSpec)

/-- ITS FALSE NEIGHBOUR: 'it returns false'. Refute it at one input. -/
def numProductsWrong : ChangeSpec := { name := "numProducts", fn := fun _ => fun
  | [d1, d2, d3] => { results := [.lit (.bool false)], args := [d1, d2, d3] }
  | _ => none }
def NumProductsWrongFalsely : Prop := numProductsRow.holds Try.pinned (OpenSpec.ofChange numProductsWrong)

/-- 'mapsheetslaw01.NumProductLaws': WHATEVER THE INPUT: true; the input reads as it did. -/
def numProductLawsSpec : ChangeSpec := { name := "numProductLaws", fn := fun _ => fun
  | [d1, d2] => { results := [.lit (.bool true)], args := [d1, d2] }
  | _ => none }
def numProductLawsRow : OpenClaim := { program := "ytffmlpenohpjlaa", sum := "94ae624ae0bede0dc97a58d69b2ee70f484ab387f40d602dbb843d398ca5c8fe", func := "mapsheets/mapsheetslaw01.NumProductLaws", spec := "numProductLaws", named := ["math/bits.divideError", "math/bits.overflowError"], apart := false }
def NumProductLawsSaid : Prop := numProductLawsRow.holds Try.pinned (OpenSpec.ofChange numProductLawsSpec)

/-- ITS FALSE NEIGHBOUR: 'it returns false'. Refute it at one input. -/
def numProductLawsWrong : ChangeSpec := { name := "numProductLaws", fn := fun _ => fun
  | [d1, d2] => { results := [.lit (.bool false)], args := [d1, d2] }
  | _ => none }
def NumProductLawsWrongFalsely : Prop := numProductLawsRow.holds Try.pinned (OpenSpec.ofChange numProductLawsWrong)

/-- 'mapsheetslaw01.NumRoots': WHATEVER THE INPUT: true; the input reads as it did. -/
def numRootsSpec : ChangeSpec := { name := "numRoots", fn := fun _ => fun
  | [d] => { results := [.lit (.bool true)], args := [d] }
  | _ => none }
def numRootsRow : OpenClaim := { program := "ytffmlpenohpjlaa", sum := "94ae624ae0bede0dc97a58d69b2ee70f484ab387f40d602dbb843d398ca5c8fe", func := "mapsheets/mapsheetslaw01.NumRoots", spec := "numRoots", named := ["math/bits.divideError", "math/bits.overflowError"], apart := false }
def NumRootsSaid : Prop := numRootsRow.holds Try.pinned (OpenSpec.ofChange numRootsSpec)

/-- ITS FALSE NEIGHBOUR: 'it returns false'. Refute it at one input. -/
def numRootsWrong : ChangeSpec := { name := "numRoots", fn := fun _ => fun
  | [d] => { results := [.lit (.bool false)], args := [d] }
  | _ => none }
def NumRootsWrongFalsely : Prop := numRootsRow.holds Try.pinned (OpenSpec.ofChange numRootsWrong)

/-- 'mapsheetslaw01.NumFractions': WHATEVER THE INPUT: true; the input reads as it did. -/
def numFractionsSpec : ChangeSpec := { name := "numFractions", fn := fun _ => fun
  | [d1, d2, d3] => { results := [.lit (.bool true)], args := [d1, d2, d3] }
  | _ => none }
def numFractionsRow : OpenClaim := { program := "ytffmlpenohpjlaa", sum := "94ae624ae0bede0dc97a58d69b2ee70f484ab387f40d602dbb843d398ca5c8fe", func := "mapsheets/mapsheetslaw01.NumFractions", spec := "numFractions", named := ["math/bits.divideError", "math/bits.overflowError"], apart := false }
def NumFractionsSaid : Prop := numFractionsRow.holds Try.pinned (OpenSpec.ofChange numFractionsSpec)

/-- ITS FALSE NEIGHBOUR: 'it returns false'. Refute it at one input. -/
def numFractionsWrong : ChangeSpec := { name := "numFractions", fn := fun _ => fun
  | [d1, d2, d3] => { results := [.lit (.bool false)], args := [d1, d2, d3] }
  | _ => none }
def NumFractionsWrongFalsely : Prop := numFractionsRow.holds Try.pinned (OpenSpec.ofChange numFractionsWrong)

/-- 'mapsheetslaw01.NumCompares': WHATEVER THE INPUT: true; the input reads as it did. -/
def numComparesSpec : ChangeSpec := { name := "numCompares", fn := fun _ => fun
  | [d1, d2] => { results := [.lit (.bool true)], args := [d1, d2] }
  | _ => none }
def numComparesRow : OpenClaim := { program := "ytffmlpenohpjlaa", sum := "94ae624ae0bede0dc97a58d69b2ee70f484ab387f40d602dbb843d398ca5c8fe", func := "mapsheets/mapsheetslaw01.NumCompares", spec := "numCompares", named := ["math/bits.divideError", "math/bits.overflowError"], apart := false }
def NumComparesSaid : Prop := numComparesRow.holds Try.pinned (OpenSpec.ofChange numComparesSpec)

/-- ITS FALSE NEIGHBOUR: 'it returns false'. Refute it at one input. -/
def numComparesWrong : ChangeSpec := { name := "numCompares", fn := fun _ => fun
  | [d1, d2] => { results := [.lit (.bool false)], args := [d1, d2] }
  | _ => none }
def NumComparesWrongFalsely : Prop := numComparesRow.holds Try.pinned (OpenSpec.ofChange numComparesWrong)

/-- 'mapsheetslaw01.NumOrders': WHATEVER THE INPUT: true; the input reads as it did. -/
def numOrdersSpec : ChangeSpec := { name := "numOrders", fn := fun _ => fun
  | [d1, d2, d3] => { results := [.lit (.bool true)], args := [d1, d2, d3] }
  | _ => none }
def numOrdersRow : OpenClaim := { program := "ytffmlpenohpjlaa", sum := "94ae624ae0bede0dc97a58d69b2ee70f484ab387f40d602dbb843d398ca5c8fe", func := "mapsheets/mapsheetslaw01.NumOrders", spec := "numOrders", named := ["math/bits.divideError", "math/bits.overflowError"], apart := false }
def NumOrdersSaid : Prop := numOrdersRow.holds Try.pinned (OpenSpec.ofChange numOrdersSpec)

/-- ITS FALSE NEIGHBOUR: 'it returns false'. Refute it at one input. -/
def numOrdersWrong : ChangeSpec := { name := "numOrders", fn := fun _ => fun
  | [d1, d2, d3] => { results := [.lit (.bool false)], args := [d1, d2, d3] }
  | _ => none }
def NumOrdersWrongFalsely : Prop := numOrdersRow.holds Try.pinned (OpenSpec.ofChange numOrdersWrong)

/- THE SECOND FORM. 'bulk': how many values and letters a reading holds, each counted each time it is reached (what is shared counts as often as it is met; a slice's spare places count too). A statement '..UptoSaid' is the law's where the arguments, and the package variables that the reading takes, are together of bulk at most 1048576: NARROWER than '..Said'. Prove '..Said' where nothing that the law and all that it calls make is longer than what came in: it says more and counts as full. Else prove '..UptoSaid'. A law counts once. -/
mutual
def uptoBulk {H : Type} : DataW H → Nat
  | .lit (.string bytes) => bytes.length + 1
  | .lit _ => 1
  | .nil => 1
  | .ptr d => uptoBulk d + 1
  | .slice elems spare => uptoBulkAll elems + uptoBulkAll spare + 1
  | .agg parts => uptoBulkAll parts + 1
  | .iface _ d => uptoBulk d + 1
  | .map entries => uptoBulkEntries entries + 1
  | .held _ => 1
def uptoBulkAll {H : Type} : List (DataW H) → Nat
  | [] => 0
  | d :: r => uptoBulk d + uptoBulkAll r
def uptoBulkEntries {H : Type} : List (Lit × DataW H) → Nat
  | [] => 0
  | x :: r => uptoBulkEntry x + uptoBulkEntries r
def uptoBulkEntry {H : Type} : Lit × DataW H → Nat
  | (.string bytes, d) => bytes.length + uptoBulk d + 1
  | (_, d) => uptoBulk d + 1
 end
def uptoSmall : (H : Type) → List (DataW H) → Bool := fun _ ds => decide (uptoBulkAll ds ≤ 1048576)
def OpenSpec.upto (s : _root_.Go.ChangeSpec) : _root_.Go.OpenSpec := { _root_.Go.OpenSpec.ofChange s with cond := some uptoSmall }

/-- 'mapsheetslaw01.NumDivides', WHERE WHAT IT READS IS OF BULK AT MOST 1048576: true; the input reads as it did. -/
def numDividesUptoRow : OpenClaim := { program := "ytffmlpenohpjlaa", sum := "94ae624ae0bede0dc97a58d69b2ee70f484ab387f40d602dbb843d398ca5c8fe", func := "mapsheets/mapsheetslaw01.NumDivides", spec := "numDivides", named := ["math/bits.divideError", "math/bits.overflowError"], apart := false, narrowed := true }
def NumDividesUptoSaid : Prop := numDividesUptoRow.holds Try.pinned (OpenSpec.upto numDividesSpec)

/-- 'mapsheetslaw01.NumGcd', WHERE WHAT IT READS IS OF BULK AT MOST 1048576: true; the input reads as it did. -/
def numGcdUptoRow : OpenClaim := { program := "ytffmlpenohpjlaa", sum := "94ae624ae0bede0dc97a58d69b2ee70f484ab387f40d602dbb843d398ca5c8fe", func := "mapsheets/mapsheetslaw01.NumGcd", spec := "numGcd", named := ["math/bits.divideError", "math/bits.overflowError"], apart := false, narrowed := true }
def NumGcdUptoSaid : Prop := numGcdUptoRow.holds Try.pinned (OpenSpec.upto numGcdSpec)

/-- 'mapsheetslaw01.NumProducts', WHERE WHAT IT READS IS OF BULK AT MOST 1048576: true; the input reads as it did. -/
def numProductsUptoRow : OpenClaim := { program := "ytffmlpenohpjlaa", sum := "94ae624ae0bede0dc97a58d69b2ee70f484ab387f40d602dbb843d398ca5c8fe", func := "mapsheets/mapsheetslaw01.NumProducts", spec := "numProducts", named := ["math/bits.divideError", "math/bits.overflowError"], apart := false, narrowed := true }
def NumProductsUptoSaid : Prop := numProductsUptoRow.holds Try.pinned (OpenSpec.upto numProductsSpec)

/-- 'mapsheetslaw01.NumProductLaws', WHERE WHAT IT READS IS OF BULK AT MOST 1048576: true; the input reads as it did. -/
def numProductLawsUptoRow : OpenClaim := { program := "ytffmlpenohpjlaa", sum := "94ae624ae0bede0dc97a58d69b2ee70f484ab387f40d602dbb843d398ca5c8fe", func := "mapsheets/mapsheetslaw01.NumProductLaws", spec := "numProductLaws", named := ["math/bits.divideError", "math/bits.overflowError"], apart := false, narrowed := true }
def NumProductLawsUptoSaid : Prop := numProductLawsUptoRow.holds Try.pinned (OpenSpec.upto numProductLawsSpec)

/-- 'mapsheetslaw01.NumRoots', WHERE WHAT IT READS IS OF BULK AT MOST 1048576: true; the input reads as it did. -/
def numRootsUptoRow : OpenClaim := { program := "ytffmlpenohpjlaa", sum := "94ae624ae0bede0dc97a58d69b2ee70f484ab387f40d602dbb843d398ca5c8fe", func := "mapsheets/mapsheetslaw01.NumRoots", spec := "numRoots", named := ["math/bits.divideError", "math/bits.overflowError"], apart := false, narrowed := true }
def NumRootsUptoSaid : Prop := numRootsUptoRow.holds Try.pinned (OpenSpec.upto numRootsSpec)

/-- 'mapsheetslaw01.NumFractions', WHERE WHAT IT READS IS OF BULK AT MOST 1048576: true; the input reads as it did. -/
def numFractionsUptoRow : OpenClaim := { program := "ytffmlpenohpjlaa", sum := "94ae624ae0bede0dc97a58d69b2ee70f484ab387f40d602dbb843d398ca5c8fe", func := "mapsheets/mapsheetslaw01.NumFractions", spec := "numFractions", named := ["math/bits.divideError", "math/bits.overflowError"], apart := false, narrowed := true }
def NumFractionsUptoSaid : Prop := numFractionsUptoRow.holds Try.pinned (OpenSpec.upto numFractionsSpec)

/-- 'mapsheetslaw01.NumCompares', WHERE WHAT IT READS IS OF BULK AT MOST 1048576: true; the input reads as it did. -/
def numComparesUptoRow : OpenClaim := { program := "ytffmlpenohpjlaa", sum := "94ae624ae0bede0dc97a58d69b2ee70f484ab387f40d602dbb843d398ca5c8fe", func := "mapsheets/mapsheetslaw01.NumCompares", spec := "numCompares", named := ["math/bits.divideError", "math/bits.overflowError"], apart := false, narrowed := true }
def NumComparesUptoSaid : Prop := numComparesUptoRow.holds Try.pinned (OpenSpec.upto numComparesSpec)

/-- 'mapsheetslaw01.NumOrders', WHERE WHAT IT READS IS OF BULK AT MOST 1048576: true; the input reads as it did. -/
def numOrdersUptoRow : OpenClaim := { program := "ytffmlpenohpjlaa", sum := "94ae624ae0bede0dc97a58d69b2ee70f484ab387f40d602dbb843d398ca5c8fe", func := "mapsheets/mapsheetslaw01.NumOrders", spec := "numOrders", named := ["math/bits.divideError", "math/bits.overflowError"], apart := false, narrowed := true }
def NumOrdersUptoSaid : Prop := numOrdersUptoRow.holds Try.pinned (OpenSpec.upto numOrdersSpec)

end Rows
end Go.Proofs.Ytffmlpenohpjlaa
