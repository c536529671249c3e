/-
  No cell of these rows narrows 'for every input' (looked for: loops, veiled, ifaces, maps, wideKeys, modest, calm, conditions, laid).
  DERIVED. THE GIVEN ROWS OF THIS SEAT. 5 by the template 'for every input the law returns true; each argument reads behind the call as it read before'; 0 by the template 'total and deterministic' (their statements: YtpdiojndfckmfaaTotals.lean).
  GIVEN WITH THE SEED: the statements are not yours to turn. If you find one false, say at which input.
  Laid BY PROGRAM, IN A SANDBOX (cutbox-rows.mjs): the forced cells as the released guide's own fill.sh prints them over the translation 666f25a8109c4131… (all of the seat's roots in one cut). By AI agents, Wed Nov 11 2026. No macro, syntax, notation, axiom, sorry.
-/
import Derived.Test.YtpdiojndfckmfaaChecked
import GoSem.Claim
import GoSem.ClaimJoined
import GoSem.ClaimMapViews
import Derived.JoinedTies
import Derived.KernelRfl
namespace Go.Proofs.Ytpdiojndfckmfaa
/- THE CELL 'sum', in the pinned program and in every row, IS THE sha256 OF THE DUMP (.gsa) THAT YtpdiojndfckmfaaProg.lean LOADS. Nothing in Lean hashes anything: it is a label: what it is worth is what the hold of that sum in a sandbox is worth. -/
noncomputable def Try.pinned : Pinned := { name := "ytpdiojndfckmfaa", sum := "666f25a8109c4131d5a8d453919fb9aac9664ef3703dd929a888a3493520849c", checked := Try.checked }
namespace Rows
def none {H : Type} : Left H := { results := [], args := [] }

/-- 'mapsheetslaw09.CutEdges': WHATEVER THE INPUT: true; the input reads as it did. -/
def cutEdgesSpec : ChangeSpec := { name := "cutEdges", fn := fun _ => fun
  | [d1, d2, d3, d4] => { results := [.lit (.bool true)], args := [d1, d2, d3, d4] }
  | _ => none }
def cutEdgesRow : OpenClaim := { program := "ytpdiojndfckmfaa", sum := "666f25a8109c4131d5a8d453919fb9aac9664ef3703dd929a888a3493520849c", func := "mapsheets/mapsheetslaw09.CutEdges", spec := "cutEdges", unfollowed := true, recurses := true, named := ["math/bits.divideError", "math/bits.overflowError"], apart := false }
def CutEdgesSaid : Prop := cutEdgesRow.holds Try.pinned (OpenSpec.ofChange cutEdgesSpec)

/-- ITS FALSE NEIGHBOUR: 'it returns false'. Refute it at one input. -/
def cutEdgesWrong : ChangeSpec := { name := "cutEdges", fn := fun _ => fun
  | [d1, d2, d3, d4] => { results := [.lit (.bool false)], args := [d1, d2, d3, d4] }
  | _ => none }
def CutEdgesWrongFalsely : Prop := cutEdgesRow.holds Try.pinned (OpenSpec.ofChange cutEdgesWrong)

/-- 'mapsheetslaw09.CutCrosses': WHATEVER THE INPUT: true; the input reads as it did. -/
def cutCrossesSpec : ChangeSpec := { name := "cutCrosses", fn := fun _ => fun
  | [d] => { results := [.lit (.bool true)], args := [d] }
  | _ => none }
def cutCrossesRow : OpenClaim := { program := "ytpdiojndfckmfaa", sum := "666f25a8109c4131d5a8d453919fb9aac9664ef3703dd929a888a3493520849c", func := "mapsheets/mapsheetslaw09.CutCrosses", spec := "cutCrosses", unfollowed := true, recurses := true, named := ["math/bits.divideError", "math/bits.overflowError"], apart := false }
def CutCrossesSaid : Prop := cutCrossesRow.holds Try.pinned (OpenSpec.ofChange cutCrossesSpec)

/-- ITS FALSE NEIGHBOUR: 'it returns false'. Refute it at one input. -/
def cutCrossesWrong : ChangeSpec := { name := "cutCrosses", fn := fun _ => fun
  | [d] => { results := [.lit (.bool false)], args := [d] }
  | _ => none }
def CutCrossesWrongFalsely : Prop := cutCrossesRow.holds Try.pinned (OpenSpec.ofChange cutCrossesWrong)

/-- 'mapsheetslaw09.CutAt': WHATEVER THE INPUT: true; the input reads as it did. -/
def cutAtSpec : ChangeSpec := { name := "cutAt", fn := fun _ => fun
  | [d1, d2, d3] => { results := [.lit (.bool true)], args := [d1, d2, d3] }
  | _ => none }
def cutAtRow : OpenClaim := { program := "ytpdiojndfckmfaa", sum := "666f25a8109c4131d5a8d453919fb9aac9664ef3703dd929a888a3493520849c", func := "mapsheets/mapsheetslaw09.CutAt", spec := "cutAt", unfollowed := true, recurses := true, named := ["math/bits.divideError", "math/bits.overflowError"], apart := false }
def CutAtSaid : Prop := cutAtRow.holds Try.pinned (OpenSpec.ofChange cutAtSpec)

/-- ITS FALSE NEIGHBOUR: 'it returns false'. Refute it at one input. -/
def cutAtWrong : ChangeSpec := { name := "cutAt", fn := fun _ => fun
  | [d1, d2, d3] => { results := [.lit (.bool false)], args := [d1, d2, d3] }
  | _ => none }
def CutAtWrongFalsely : Prop := cutAtRow.holds Try.pinned (OpenSpec.ofChange cutAtWrong)

/-- 'mapsheetslaw09.CutClips': WHATEVER THE INPUT: true; the input reads as it did. -/
def cutClipsSpec : ChangeSpec := { name := "cutClips", fn := fun _ => fun
  | [d1, d2, d3] => { results := [.lit (.bool true)], args := [d1, d2, d3] }
  | _ => none }
def cutClipsRow : OpenClaim := { program := "ytpdiojndfckmfaa", sum := "666f25a8109c4131d5a8d453919fb9aac9664ef3703dd929a888a3493520849c", func := "mapsheets/mapsheetslaw09.CutClips", spec := "cutClips", unfollowed := true, recurses := true, named := ["math/bits.divideError", "math/bits.overflowError"], apart := false }
def CutClipsSaid : Prop := cutClipsRow.holds Try.pinned (OpenSpec.ofChange cutClipsSpec)

/-- ITS FALSE NEIGHBOUR: 'it returns false'. Refute it at one input. -/
def cutClipsWrong : ChangeSpec := { name := "cutClips", fn := fun _ => fun
  | [d1, d2, d3] => { results := [.lit (.bool false)], args := [d1, d2, d3] }
  | _ => none }
def CutClipsWrongFalsely : Prop := cutClipsRow.holds Try.pinned (OpenSpec.ofChange cutClipsWrong)

/-- 'mapsheetslaw09.CutWithin': WHATEVER THE INPUT: true; the input reads as it did. -/
def cutWithinSpec : ChangeSpec := { name := "cutWithin", fn := fun _ => fun
  | [d1, d2, d3] => { results := [.lit (.bool true)], args := [d1, d2, d3] }
  | _ => none }
def cutWithinRow : OpenClaim := { program := "ytpdiojndfckmfaa", sum := "666f25a8109c4131d5a8d453919fb9aac9664ef3703dd929a888a3493520849c", func := "mapsheets/mapsheetslaw09.CutWithin", spec := "cutWithin", unfollowed := true, recurses := true, named := ["math/bits.divideError", "math/bits.overflowError"], apart := false }
def CutWithinSaid : Prop := cutWithinRow.holds Try.pinned (OpenSpec.ofChange cutWithinSpec)

/-- ITS FALSE NEIGHBOUR: 'it returns false'. Refute it at one input. -/
def cutWithinWrong : ChangeSpec := { name := "cutWithin", fn := fun _ => fun
  | [d1, d2, d3] => { results := [.lit (.bool false)], args := [d1, d2, d3] }
  | _ => none }
def CutWithinWrongFalsely : Prop := cutWithinRow.holds Try.pinned (OpenSpec.ofChange cutWithinWrong)

/- THE SECOND FORM. 'bulk': how many values and letters a reading holds, each counted each time it is reached (what is shared counts as often as it is met; a slice's spare places count too). A statement '..UptoSaid' is the law's where the arguments, and the package variables that the reading takes, are together of bulk at most 1048576: NARROWER than '..Said'. Prove '..Said' where nothing that the law and all that it calls make is longer than what came in: it says more and counts as full. Else prove '..UptoSaid'. A law counts once. -/
mutual
def uptoBulk {H : Type} : DataW H → Nat
  | .lit (.string bytes) => bytes.length + 1
  | .lit _ => 1
  | .nil => 1
  | .ptr d => uptoBulk d + 1
  | .slice elems spare => uptoBulkAll elems + uptoBulkAll spare + 1
  | .agg parts => uptoBulkAll parts + 1
  | .iface _ d => uptoBulk d + 1
  | .map entries => uptoBulkEntries entries + 1
  | .held _ => 1
def uptoBulkAll {H : Type} : List (DataW H) → Nat
  | [] => 0
  | d :: r => uptoBulk d + uptoBulkAll r
def uptoBulkEntries {H : Type} : List (Lit × DataW H) → Nat
  | [] => 0
  | x :: r => uptoBulkEntry x + uptoBulkEntries r
def uptoBulkEntry {H : Type} : Lit × DataW H → Nat
  | (.string bytes, d) => bytes.length + uptoBulk d + 1
  | (_, d) => uptoBulk d + 1
 end
def uptoSmall : (H : Type) → List (DataW H) → Bool := fun _ ds => decide (uptoBulkAll ds ≤ 1048576)
def OpenSpec.upto (s : _root_.Go.ChangeSpec) : _root_.Go.OpenSpec := { _root_.Go.OpenSpec.ofChange s with cond := some uptoSmall }

/-- 'mapsheetslaw09.CutEdges', WHERE WHAT IT READS IS OF BULK AT MOST 1048576: true; the input reads as it did. -/
def cutEdgesUptoRow : OpenClaim := { program := "ytpdiojndfckmfaa", sum := "666f25a8109c4131d5a8d453919fb9aac9664ef3703dd929a888a3493520849c", func := "mapsheets/mapsheetslaw09.CutEdges", spec := "cutEdges", unfollowed := true, recurses := true, named := ["math/bits.divideError", "math/bits.overflowError"], apart := false, narrowed := true }
def CutEdgesUptoSaid : Prop := cutEdgesUptoRow.holds Try.pinned (OpenSpec.upto cutEdgesSpec)

/-- 'mapsheetslaw09.CutCrosses', WHERE WHAT IT READS IS OF BULK AT MOST 1048576: true; the input reads as it did. -/
def cutCrossesUptoRow : OpenClaim := { program := "ytpdiojndfckmfaa", sum := "666f25a8109c4131d5a8d453919fb9aac9664ef3703dd929a888a3493520849c", func := "mapsheets/mapsheetslaw09.CutCrosses", spec := "cutCrosses", unfollowed := true, recurses := true, named := ["math/bits.divideError", "math/bits.overflowError"], apart := false, narrowed := true }
def CutCrossesUptoSaid : Prop := cutCrossesUptoRow.holds Try.pinned (OpenSpec.upto cutCrossesSpec)

/-- 'mapsheetslaw09.CutAt', WHERE WHAT IT READS IS OF BULK AT MOST 1048576: true; the input reads as it did. -/
def cutAtUptoRow : OpenClaim := { program := "ytpdiojndfckmfaa", sum := "666f25a8109c4131d5a8d453919fb9aac9664ef3703dd929a888a3493520849c", func := "mapsheets/mapsheetslaw09.CutAt", spec := "cutAt", unfollowed := true, recurses := true, named := ["math/bits.divideError", "math/bits.overflowError"], apart := false, narrowed := true }
def CutAtUptoSaid : Prop := cutAtUptoRow.holds Try.pinned (OpenSpec.upto cutAtSpec)

/-- 'mapsheetslaw09.CutClips', WHERE WHAT IT READS IS OF BULK AT MOST 1048576: true; the input reads as it did. -/
def cutClipsUptoRow : OpenClaim := { program := "ytpdiojndfckmfaa", sum := "666f25a8109c4131d5a8d453919fb9aac9664ef3703dd929a888a3493520849c", func := "mapsheets/mapsheetslaw09.CutClips", spec := "cutClips", unfollowed := true, recurses := true, named := ["math/bits.divideError", "math/bits.overflowError"], apart := false, narrowed := true }
def CutClipsUptoSaid : Prop := cutClipsUptoRow.holds Try.pinned (OpenSpec.upto cutClipsSpec)

/-- 'mapsheetslaw09.CutWithin', WHERE WHAT IT READS IS OF BULK AT MOST 1048576: true; the input reads as it did. -/
def cutWithinUptoRow : OpenClaim := { program := "ytpdiojndfckmfaa", sum := "666f25a8109c4131d5a8d453919fb9aac9664ef3703dd929a888a3493520849c", func := "mapsheets/mapsheetslaw09.CutWithin", spec := "cutWithin", unfollowed := true, recurses := true, named := ["math/bits.divideError", "math/bits.overflowError"], apart := false, narrowed := true }
def CutWithinUptoSaid : Prop := cutWithinUptoRow.holds Try.pinned (OpenSpec.upto cutWithinSpec)

end Rows
end Go.Proofs.Ytpdiojndfckmfaa
