/-
  No cell of these rows narrows 'for every input' (looked for: loops, veiled, ifaces, maps, wideKeys, modest, calm, conditions, laid).
  DERIVED. THE GIVEN ROWS OF THIS SEAT. 11 by the template 'for every input the law returns true; each argument reads behind the call as it read before'; 0 by the template 'total and deterministic' (their statements: YthgdmcjahldihaaTotals.lean).
  GIVEN WITH THE SEED: the statements are not yours to turn. If you find one false, say at which input.
  Laid BY PROGRAM, IN A SANDBOX (cutbox-rows.mjs): the forced cells as the released guide's own fill.sh prints them over the translation c6e2298883875962… (all of the seat's roots in one cut). By AI agents, Wed Nov 11 2026. No macro, syntax, notation, axiom, sorry.
-/
import Derived.Test.YthgdmcjahldihaaChecked
import GoSem.Claim
import GoSem.ClaimJoined
import GoSem.ClaimMapViews
import Derived.JoinedTies
import Derived.KernelRfl
namespace Go.Proofs.Ythgdmcjahldihaa
/- THE CELL 'sum', in the pinned program and in every row, IS THE sha256 OF THE DUMP (.gsa) THAT YthgdmcjahldihaaProg.lean LOADS. Nothing in Lean hashes anything: it is a label: what it is worth is what the hold of that sum in a sandbox is worth. -/
noncomputable def Try.pinned : Pinned := { name := "ythgdmcjahldihaa", sum := "c6e2298883875962ab7a7a0514538c59c80f003554a49586e79b7d737c867ad4", checked := Try.checked }
namespace Rows
def none {H : Type} : Left H := { results := [], args := [] }

/-- 'mapsheetslaw45.ReliefCells': WHATEVER THE INPUT: true; the input reads as it did. -/
def reliefCellsSpec : ChangeSpec := { name := "reliefCells", fn := fun _ => fun
  | [d1, d2, d3] => { results := [.lit (.bool true)], args := [d1, d2, d3] }
  | _ => none }
def reliefCellsRow : OpenClaim := { program := "ythgdmcjahldihaa", sum := "c6e2298883875962ab7a7a0514538c59c80f003554a49586e79b7d737c867ad4", func := "mapsheets/mapsheetslaw45.ReliefCells", spec := "reliefCells", unfollowed := true, recurses := true, apart := false }
def ReliefCellsSaid : Prop := reliefCellsRow.holds Try.pinned (OpenSpec.ofChange reliefCellsSpec)

/-- ITS FALSE NEIGHBOUR: 'it returns false'. Refute it at one input. -/
def reliefCellsWrong : ChangeSpec := { name := "reliefCells", fn := fun _ => fun
  | [d1, d2, d3] => { results := [.lit (.bool false)], args := [d1, d2, d3] }
  | _ => none }
def ReliefCellsWrongFalsely : Prop := reliefCellsRow.holds Try.pinned (OpenSpec.ofChange reliefCellsWrong)

/-- 'mapsheetslaw45.ReliefAll': WHATEVER THE INPUT: true; the input reads as it did. -/
def reliefAllSpec : ChangeSpec := { name := "reliefAll", fn := fun _ => fun
  | [d] => { results := [.lit (.bool true)], args := [d] }
  | _ => none }
def reliefAllRow : OpenClaim := { program := "ythgdmcjahldihaa", sum := "c6e2298883875962ab7a7a0514538c59c80f003554a49586e79b7d737c867ad4", func := "mapsheets/mapsheetslaw45.ReliefAll", spec := "reliefAll", unfollowed := true, recurses := true, apart := false }
def ReliefAllSaid : Prop := reliefAllRow.holds Try.pinned (OpenSpec.ofChange reliefAllSpec)

/-- ITS FALSE NEIGHBOUR: 'it returns false'. Refute it at one input. -/
def reliefAllWrong : ChangeSpec := { name := "reliefAll", fn := fun _ => fun
  | [d] => { results := [.lit (.bool false)], args := [d] }
  | _ => none }
def ReliefAllWrongFalsely : Prop := reliefAllRow.holds Try.pinned (OpenSpec.ofChange reliefAllWrong)

/-- 'mapsheetslaw45.ReliefRaised': WHATEVER THE INPUT: true; the input reads as it did. -/
def reliefRaisedSpec : ChangeSpec := { name := "reliefRaised", fn := fun _ => fun
  | [d1, d2] => { results := [.lit (.bool true)], args := [d1, d2] }
  | _ => none }
def reliefRaisedRow : OpenClaim := { program := "ythgdmcjahldihaa", sum := "c6e2298883875962ab7a7a0514538c59c80f003554a49586e79b7d737c867ad4", func := "mapsheets/mapsheetslaw45.ReliefRaised", spec := "reliefRaised", unfollowed := true, recurses := true, apart := false }
def ReliefRaisedSaid : Prop := reliefRaisedRow.holds Try.pinned (OpenSpec.ofChange reliefRaisedSpec)

/-- ITS FALSE NEIGHBOUR: 'it returns false'. Refute it at one input. -/
def reliefRaisedWrong : ChangeSpec := { name := "reliefRaised", fn := fun _ => fun
  | [d1, d2] => { results := [.lit (.bool false)], args := [d1, d2] }
  | _ => none }
def ReliefRaisedWrongFalsely : Prop := reliefRaisedRow.holds Try.pinned (OpenSpec.ofChange reliefRaisedWrong)

/-- 'mapsheetslaw45.ReliefTurned': WHATEVER THE INPUT: true; the input reads as it did. -/
def reliefTurnedSpec : ChangeSpec := { name := "reliefTurned", fn := fun _ => fun
  | [d1, d2, d3] => { results := [.lit (.bool true)], args := [d1, d2, d3] }
  | _ => none }
def reliefTurnedRow : OpenClaim := { program := "ythgdmcjahldihaa", sum := "c6e2298883875962ab7a7a0514538c59c80f003554a49586e79b7d737c867ad4", func := "mapsheets/mapsheetslaw45.ReliefTurned", spec := "reliefTurned", unfollowed := true, recurses := true, apart := false }
def ReliefTurnedSaid : Prop := reliefTurnedRow.holds Try.pinned (OpenSpec.ofChange reliefTurnedSpec)

/-- ITS FALSE NEIGHBOUR: 'it returns false'. Refute it at one input. -/
def reliefTurnedWrong : ChangeSpec := { name := "reliefTurned", fn := fun _ => fun
  | [d1, d2, d3] => { results := [.lit (.bool false)], args := [d1, d2, d3] }
  | _ => none }
def ReliefTurnedWrongFalsely : Prop := reliefTurnedRow.holds Try.pinned (OpenSpec.ofChange reliefTurnedWrong)

/-- 'mapsheetslaw45.ReliefMirrored': WHATEVER THE INPUT: true; the input reads as it did. -/
def reliefMirroredSpec : ChangeSpec := { name := "reliefMirrored", fn := fun _ => fun
  | [d1, d2, d3] => { results := [.lit (.bool true)], args := [d1, d2, d3] }
  | _ => none }
def reliefMirroredRow : OpenClaim := { program := "ythgdmcjahldihaa", sum := "c6e2298883875962ab7a7a0514538c59c80f003554a49586e79b7d737c867ad4", func := "mapsheets/mapsheetslaw45.ReliefMirrored", spec := "reliefMirrored", unfollowed := true, recurses := true, apart := false }
def ReliefMirroredSaid : Prop := reliefMirroredRow.holds Try.pinned (OpenSpec.ofChange reliefMirroredSpec)

/-- ITS FALSE NEIGHBOUR: 'it returns false'. Refute it at one input. -/
def reliefMirroredWrong : ChangeSpec := { name := "reliefMirrored", fn := fun _ => fun
  | [d1, d2, d3] => { results := [.lit (.bool false)], args := [d1, d2, d3] }
  | _ => none }
def ReliefMirroredWrongFalsely : Prop := reliefMirroredRow.holds Try.pinned (OpenSpec.ofChange reliefMirroredWrong)

/-- 'mapsheetslaw43.TerrainChecks': WHATEVER THE INPUT: true; the input reads as it did. -/
def terrainChecksSpec : ChangeSpec := { name := "terrainChecks", fn := fun _ => fun
  | [d1, d2, d3] => { results := [.lit (.bool true)], args := [d1, d2, d3] }
  | _ => none }
def terrainChecksRow : OpenClaim := { program := "ythgdmcjahldihaa", sum := "c6e2298883875962ab7a7a0514538c59c80f003554a49586e79b7d737c867ad4", func := "mapsheets/mapsheetslaw43.TerrainChecks", spec := "terrainChecks", unfollowed := true, recurses := true, apart := false }
def TerrainChecksSaid : Prop := terrainChecksRow.holds Try.pinned (OpenSpec.ofChange terrainChecksSpec)

/-- ITS FALSE NEIGHBOUR: 'it returns false'. Refute it at one input. -/
def terrainChecksWrong : ChangeSpec := { name := "terrainChecks", fn := fun _ => fun
  | [d1, d2, d3] => { results := [.lit (.bool false)], args := [d1, d2, d3] }
  | _ => none }
def TerrainChecksWrongFalsely : Prop := terrainChecksRow.holds Try.pinned (OpenSpec.ofChange terrainChecksWrong)

/-- 'mapsheetslaw43.TerrainHeights': WHATEVER THE INPUT: true; the input reads as it did. -/
def terrainHeightsSpec : ChangeSpec := { name := "terrainHeights", fn := fun _ => fun
  | [d1, d2] => { results := [.lit (.bool true)], args := [d1, d2] }
  | _ => none }
def terrainHeightsRow : OpenClaim := { program := "ythgdmcjahldihaa", sum := "c6e2298883875962ab7a7a0514538c59c80f003554a49586e79b7d737c867ad4", func := "mapsheets/mapsheetslaw43.TerrainHeights", spec := "terrainHeights", unfollowed := true, recurses := true, apart := false }
def TerrainHeightsSaid : Prop := terrainHeightsRow.holds Try.pinned (OpenSpec.ofChange terrainHeightsSpec)

/-- ITS FALSE NEIGHBOUR: 'it returns false'. Refute it at one input. -/
def terrainHeightsWrong : ChangeSpec := { name := "terrainHeights", fn := fun _ => fun
  | [d1, d2] => { results := [.lit (.bool false)], args := [d1, d2] }
  | _ => none }
def TerrainHeightsWrongFalsely : Prop := terrainHeightsRow.holds Try.pinned (OpenSpec.ofChange terrainHeightsWrong)

/-- 'mapsheetslaw43.TerrainPeaks': WHATEVER THE INPUT: true; the input reads as it did. -/
def terrainPeaksSpec : ChangeSpec := { name := "terrainPeaks", fn := fun _ => fun
  | [d] => { results := [.lit (.bool true)], args := [d] }
  | _ => none }
def terrainPeaksRow : OpenClaim := { program := "ythgdmcjahldihaa", sum := "c6e2298883875962ab7a7a0514538c59c80f003554a49586e79b7d737c867ad4", func := "mapsheets/mapsheetslaw43.TerrainPeaks", spec := "terrainPeaks", unfollowed := true, recurses := true, apart := false }
def TerrainPeaksSaid : Prop := terrainPeaksRow.holds Try.pinned (OpenSpec.ofChange terrainPeaksSpec)

/-- ITS FALSE NEIGHBOUR: 'it returns false'. Refute it at one input. -/
def terrainPeaksWrong : ChangeSpec := { name := "terrainPeaks", fn := fun _ => fun
  | [d] => { results := [.lit (.bool false)], args := [d] }
  | _ => none }
def TerrainPeaksWrongFalsely : Prop := terrainPeaksRow.holds Try.pinned (OpenSpec.ofChange terrainPeaksWrong)

/-- 'mapsheetslaw43.TerrainRises': WHATEVER THE INPUT: true; the input reads as it did. -/
def terrainRisesSpec : ChangeSpec := { name := "terrainRises", fn := fun _ => fun
  | [d1, d2, d3] => { results := [.lit (.bool true)], args := [d1, d2, d3] }
  | _ => none }
def terrainRisesRow : OpenClaim := { program := "ythgdmcjahldihaa", sum := "c6e2298883875962ab7a7a0514538c59c80f003554a49586e79b7d737c867ad4", func := "mapsheets/mapsheetslaw43.TerrainRises", spec := "terrainRises", unfollowed := true, recurses := true, apart := false }
def TerrainRisesSaid : Prop := terrainRisesRow.holds Try.pinned (OpenSpec.ofChange terrainRisesSpec)

/-- ITS FALSE NEIGHBOUR: 'it returns false'. Refute it at one input. -/
def terrainRisesWrong : ChangeSpec := { name := "terrainRises", fn := fun _ => fun
  | [d1, d2, d3] => { results := [.lit (.bool false)], args := [d1, d2, d3] }
  | _ => none }
def TerrainRisesWrongFalsely : Prop := terrainRisesRow.holds Try.pinned (OpenSpec.ofChange terrainRisesWrong)

/-- 'mapsheetslaw43.TerrainMoves': WHATEVER THE INPUT: true; the input reads as it did. -/
def terrainMovesSpec : ChangeSpec := { name := "terrainMoves", fn := fun _ => fun
  | [d1, d2, d3] => { results := [.lit (.bool true)], args := [d1, d2, d3] }
  | _ => none }
def terrainMovesRow : OpenClaim := { program := "ythgdmcjahldihaa", sum := "c6e2298883875962ab7a7a0514538c59c80f003554a49586e79b7d737c867ad4", func := "mapsheets/mapsheetslaw43.TerrainMoves", spec := "terrainMoves", unfollowed := true, recurses := true, apart := false }
def TerrainMovesSaid : Prop := terrainMovesRow.holds Try.pinned (OpenSpec.ofChange terrainMovesSpec)

/-- ITS FALSE NEIGHBOUR: 'it returns false'. Refute it at one input. -/
def terrainMovesWrong : ChangeSpec := { name := "terrainMoves", fn := fun _ => fun
  | [d1, d2, d3] => { results := [.lit (.bool false)], args := [d1, d2, d3] }
  | _ => none }
def TerrainMovesWrongFalsely : Prop := terrainMovesRow.holds Try.pinned (OpenSpec.ofChange terrainMovesWrong)

/-- 'mapsheetslaw43.TerrainBetween': WHATEVER THE INPUT: true; the input reads as it did. -/
def terrainBetweenSpec : ChangeSpec := { name := "terrainBetween", fn := fun _ => fun
  | [d1, d2, d3, d4] => { results := [.lit (.bool true)], args := [d1, d2, d3, d4] }
  | _ => none }
def terrainBetweenRow : OpenClaim := { program := "ythgdmcjahldihaa", sum := "c6e2298883875962ab7a7a0514538c59c80f003554a49586e79b7d737c867ad4", func := "mapsheets/mapsheetslaw43.TerrainBetween", spec := "terrainBetween", unfollowed := true, recurses := true, apart := false }
def TerrainBetweenSaid : Prop := terrainBetweenRow.holds Try.pinned (OpenSpec.ofChange terrainBetweenSpec)

/-- ITS FALSE NEIGHBOUR: 'it returns false'. Refute it at one input. -/
def terrainBetweenWrong : ChangeSpec := { name := "terrainBetween", fn := fun _ => fun
  | [d1, d2, d3, d4] => { results := [.lit (.bool false)], args := [d1, d2, d3, d4] }
  | _ => none }
def TerrainBetweenWrongFalsely : Prop := terrainBetweenRow.holds Try.pinned (OpenSpec.ofChange terrainBetweenWrong)

/- THE SECOND FORM. 'bulk': how many values and letters a reading holds, each counted each time it is reached (what is shared counts as often as it is met; a slice's spare places count too). A statement '..UptoSaid' is the law's where the arguments, and the package variables that the reading takes, are together of bulk at most 1048576: NARROWER than '..Said'. Prove '..Said' where nothing that the law and all that it calls make is longer than what came in: it says more and counts as full. Else prove '..UptoSaid'. A law counts once. -/
mutual
def uptoBulk {H : Type} : DataW H → Nat
  | .lit (.string bytes) => bytes.length + 1
  | .lit _ => 1
  | .nil => 1
  | .ptr d => uptoBulk d + 1
  | .slice elems spare => uptoBulkAll elems + uptoBulkAll spare + 1
  | .agg parts => uptoBulkAll parts + 1
  | .iface _ d => uptoBulk d + 1
  | .map entries => uptoBulkEntries entries + 1
  | .held _ => 1
def uptoBulkAll {H : Type} : List (DataW H) → Nat
  | [] => 0
  | d :: r => uptoBulk d + uptoBulkAll r
def uptoBulkEntries {H : Type} : List (Lit × DataW H) → Nat
  | [] => 0
  | x :: r => uptoBulkEntry x + uptoBulkEntries r
def uptoBulkEntry {H : Type} : Lit × DataW H → Nat
  | (.string bytes, d) => bytes.length + uptoBulk d + 1
  | (_, d) => uptoBulk d + 1
 end
def uptoSmall : (H : Type) → List (DataW H) → Bool := fun _ ds => decide (uptoBulkAll ds ≤ 1048576)
def OpenSpec.upto (s : _root_.Go.ChangeSpec) : _root_.Go.OpenSpec := { _root_.Go.OpenSpec.ofChange s with cond := some uptoSmall }

/-- 'mapsheetslaw45.ReliefCells', WHERE WHAT IT READS IS OF BULK AT MOST 1048576: true; the input reads as it did. -/
def reliefCellsUptoRow : OpenClaim := { program := "ythgdmcjahldihaa", sum := "c6e2298883875962ab7a7a0514538c59c80f003554a49586e79b7d737c867ad4", func := "mapsheets/mapsheetslaw45.ReliefCells", spec := "reliefCells", unfollowed := true, recurses := true, apart := false, narrowed := true }
def ReliefCellsUptoSaid : Prop := reliefCellsUptoRow.holds Try.pinned (OpenSpec.upto reliefCellsSpec)

/-- 'mapsheetslaw45.ReliefAll', WHERE WHAT IT READS IS OF BULK AT MOST 1048576: true; the input reads as it did. -/
def reliefAllUptoRow : OpenClaim := { program := "ythgdmcjahldihaa", sum := "c6e2298883875962ab7a7a0514538c59c80f003554a49586e79b7d737c867ad4", func := "mapsheets/mapsheetslaw45.ReliefAll", spec := "reliefAll", unfollowed := true, recurses := true, apart := false, narrowed := true }
def ReliefAllUptoSaid : Prop := reliefAllUptoRow.holds Try.pinned (OpenSpec.upto reliefAllSpec)

/-- 'mapsheetslaw45.ReliefRaised', WHERE WHAT IT READS IS OF BULK AT MOST 1048576: true; the input reads as it did. -/
def reliefRaisedUptoRow : OpenClaim := { program := "ythgdmcjahldihaa", sum := "c6e2298883875962ab7a7a0514538c59c80f003554a49586e79b7d737c867ad4", func := "mapsheets/mapsheetslaw45.ReliefRaised", spec := "reliefRaised", unfollowed := true, recurses := true, apart := false, narrowed := true }
def ReliefRaisedUptoSaid : Prop := reliefRaisedUptoRow.holds Try.pinned (OpenSpec.upto reliefRaisedSpec)

/-- 'mapsheetslaw45.ReliefTurned', WHERE WHAT IT READS IS OF BULK AT MOST 1048576: true; the input reads as it did. -/
def reliefTurnedUptoRow : OpenClaim := { program := "ythgdmcjahldihaa", sum := "c6e2298883875962ab7a7a0514538c59c80f003554a49586e79b7d737c867ad4", func := "mapsheets/mapsheetslaw45.ReliefTurned", spec := "reliefTurned", unfollowed := true, recurses := true, apart := false, narrowed := true }
def ReliefTurnedUptoSaid : Prop := reliefTurnedUptoRow.holds Try.pinned (OpenSpec.upto reliefTurnedSpec)

/-- 'mapsheetslaw45.ReliefMirrored', WHERE WHAT IT READS IS OF BULK AT MOST 1048576: true; the input reads as it did. -/
def reliefMirroredUptoRow : OpenClaim := { program := "ythgdmcjahldihaa", sum := "c6e2298883875962ab7a7a0514538c59c80f003554a49586e79b7d737c867ad4", func := "mapsheets/mapsheetslaw45.ReliefMirrored", spec := "reliefMirrored", unfollowed := true, recurses := true, apart := false, narrowed := true }
def ReliefMirroredUptoSaid : Prop := reliefMirroredUptoRow.holds Try.pinned (OpenSpec.upto reliefMirroredSpec)

/-- 'mapsheetslaw43.TerrainChecks', WHERE WHAT IT READS IS OF BULK AT MOST 1048576: true; the input reads as it did. -/
def terrainChecksUptoRow : OpenClaim := { program := "ythgdmcjahldihaa", sum := "c6e2298883875962ab7a7a0514538c59c80f003554a49586e79b7d737c867ad4", func := "mapsheets/mapsheetslaw43.TerrainChecks", spec := "terrainChecks", unfollowed := true, recurses := true, apart := false, narrowed := true }
def TerrainChecksUptoSaid : Prop := terrainChecksUptoRow.holds Try.pinned (OpenSpec.upto terrainChecksSpec)

/-- 'mapsheetslaw43.TerrainHeights', WHERE WHAT IT READS IS OF BULK AT MOST 1048576: true; the input reads as it did. -/
def terrainHeightsUptoRow : OpenClaim := { program := "ythgdmcjahldihaa", sum := "c6e2298883875962ab7a7a0514538c59c80f003554a49586e79b7d737c867ad4", func := "mapsheets/mapsheetslaw43.TerrainHeights", spec := "terrainHeights", unfollowed := true, recurses := true, apart := false, narrowed := true }
def TerrainHeightsUptoSaid : Prop := terrainHeightsUptoRow.holds Try.pinned (OpenSpec.upto terrainHeightsSpec)

/-- 'mapsheetslaw43.TerrainPeaks', WHERE WHAT IT READS IS OF BULK AT MOST 1048576: true; the input reads as it did. -/
def terrainPeaksUptoRow : OpenClaim := { program := "ythgdmcjahldihaa", sum := "c6e2298883875962ab7a7a0514538c59c80f003554a49586e79b7d737c867ad4", func := "mapsheets/mapsheetslaw43.TerrainPeaks", spec := "terrainPeaks", unfollowed := true, recurses := true, apart := false, narrowed := true }
def TerrainPeaksUptoSaid : Prop := terrainPeaksUptoRow.holds Try.pinned (OpenSpec.upto terrainPeaksSpec)

/-- 'mapsheetslaw43.TerrainRises', WHERE WHAT IT READS IS OF BULK AT MOST 1048576: true; the input reads as it did. -/
def terrainRisesUptoRow : OpenClaim := { program := "ythgdmcjahldihaa", sum := "c6e2298883875962ab7a7a0514538c59c80f003554a49586e79b7d737c867ad4", func := "mapsheets/mapsheetslaw43.TerrainRises", spec := "terrainRises", unfollowed := true, recurses := true, apart := false, narrowed := true }
def TerrainRisesUptoSaid : Prop := terrainRisesUptoRow.holds Try.pinned (OpenSpec.upto terrainRisesSpec)

/-- 'mapsheetslaw43.TerrainMoves', WHERE WHAT IT READS IS OF BULK AT MOST 1048576: true; the input reads as it did. -/
def terrainMovesUptoRow : OpenClaim := { program := "ythgdmcjahldihaa", sum := "c6e2298883875962ab7a7a0514538c59c80f003554a49586e79b7d737c867ad4", func := "mapsheets/mapsheetslaw43.TerrainMoves", spec := "terrainMoves", unfollowed := true, recurses := true, apart := false, narrowed := true }
def TerrainMovesUptoSaid : Prop := terrainMovesUptoRow.holds Try.pinned (OpenSpec.upto terrainMovesSpec)

/-- 'mapsheetslaw43.TerrainBetween', WHERE WHAT IT READS IS OF BULK AT MOST 1048576: true; the input reads as it did. -/
def terrainBetweenUptoRow : OpenClaim := { program := "ythgdmcjahldihaa", sum := "c6e2298883875962ab7a7a0514538c59c80f003554a49586e79b7d737c867ad4", func := "mapsheets/mapsheetslaw43.TerrainBetween", spec := "terrainBetween", unfollowed := true, recurses := true, apart := false, narrowed := true }
def TerrainBetweenUptoSaid : Prop := terrainBetweenUptoRow.holds Try.pinned (OpenSpec.upto terrainBetweenSpec)

end Rows
end Go.Proofs.Ythgdmcjahldihaa
