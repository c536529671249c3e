/- GeomMeets returns true for all four points: the walk. -/
import Derived.Test.YtkojdifgmppfpaaGeoN
import Derived.Test.YtkojdifgmppfpaaGeoR
namespace Go.Proofs.Ytkojdifgmppfpaa
open Go.RowKit
open Num Geo
set_option linter.unusedVariables false
set_option maxRecDepth 100000 in
set_option maxHeartbeats 4000000 in
theorem meets_any (ax ay bx by_ cx cy dx dy : Int) (w : World) : Calls Try.prog 4 #[.agg #[.int .i64 ax, .int .i64 ay], .agg #[.int .i64 bx, .int .i64 by_], .agg #[.int .i64 cx, .int .i64 cy], .agg #[.int .i64 dx, .int .i64 dy]] w fun e w' => e = .returned (.bool true) ∧ Below w.heap.size w w' := by
  have R := rMeet_any ax ay bx by_ cx cy dx dy
  rw [rm_eq] at R
  have N1 := Meet_any ax ay bx by_ cx cy dx dy
  have N2 := Meet_any cx cy dx dy ax ay bx by_
  rw [mt_comm ax ay bx by_ cx cy dx dy] at N2
  have N3 := Meet_any bx by_ ax ay cx cy dx dy
  rw [mt_flip ax ay bx by_ cx cy dx dy] at N3
  have N4 := Meet_any bx by_ ax ay dx dy cx cy
  rw [mt_flip ax ay bx by_ dx dy cx cy, ← mt_comm ax ay bx by_ dx dy cx cy, mt_flip cx cy dx dy ax ay bx by_, mt_comm ax ay bx by_ cx cy dx dy] at N4
  generalize mtF ax ay bx by_ cx cy dx dy = m at *
  have em : (m == m) = true := by simp
  have R := Lib.hid R
  have N1 := Lib.hid N1
  have N2 := Lib.hid N2
  have N3 := Lib.hid N3
  have N4 := Lib.hid N4
  go_enter Try.func4, Try.ntmps4
  go_wp2_with fail
  refine (R.out _).mono ?_
  rintro e w1 ⟨rfl, hb⟩
  have H1 := Lib.hid ((B4_has w ax ay bx by_ cx cy dx dy).later hb)
  clear hb
  obtain ⟨c0, c1, c2, c3, c4, c5, c6, c7, hg⟩ := H1.out
  clear hg
  go_wp2_with fail
  refine (N1.out _).mono ?_
  rintro e w2 ⟨rfl, hb⟩
  have H2 := Lib.hid (H1.out.later hb)
  clear H1 hb c0 c1 c2 c3 c4 c5 c6 c7
  obtain ⟨c0, c1, c2, c3, c4, c5, c6, c7, hg⟩ := H2.out
  clear hg
  go_wp2_with fail
  refine (N2.out _).mono ?_
  rintro e w3 ⟨rfl, hb⟩
  have H3 := Lib.hid (H2.out.later hb)
  clear H2 hb c0 c1 c2 c3 c4 c5 c6 c7
  obtain ⟨c0, c1, c2, c3, c4, c5, c6, c7, hg⟩ := H3.out
  clear hg
  go_wp2_with fail
  refine (N3.out _).mono ?_
  rintro e w4 ⟨rfl, hb⟩
  have H4 := Lib.hid (H3.out.later hb)
  clear H3 hb c0 c1 c2 c3 c4 c5 c6 c7
  obtain ⟨c0, c1, c2, c3, c4, c5, c6, c7, hg⟩ := H4.out
  clear hg
  go_wp2_with fail
  refine (N4.out _).mono ?_
  rintro e w5 ⟨rfl, hb⟩
  have H5 := Lib.hid (H4.out.later hb)
  clear H4 hb c0 c1 c2 c3 c4 c5 c6 c7
  obtain ⟨c0, c1, c2, c3, c4, c5, c6, c7, hg⟩ := H5.out
  have G := Lib.hid hg
  clear hg c0 c1 c2 c3 c4 c5 c6 c7 H5
  go_wp2_with fail
  refine (awake08 _).mono ?_
  rintro e w6 ⟨rfl, hb⟩
  have G2 := Lib.hid (below_on G.out hb)
  clear hb G
  go_wp2
  go_ret
  exact ⟨rfl, G2.out⟩
end Go.Proofs.Ytkojdifgmppfpaa
