/- CutEdges returns true for all segments, boxes and edges. No conditions. -/
import Derived.Test.YtpdiojndfckmfaaCutEdges
import Derived.Test.YtpdiojndfckmfaaGeoOpen
namespace Go.Proofs.Ytpdiojndfckmfaa.cutEdges
open Go.ChangeShapes Go.WideShapes Go.ChangeAt Go.RowKit
set_option linter.unusedVariables false

theorem own : ownKnob Try.prog.godebug = none := by kernel_rfl
set_option maxRecDepth 100000 in
theorem lifted (os : Os) (started : os.Started) (H : Type) (enc : TypeId × Value → H) :
    ReturnsInHanded {} Try.checked os 3 .any (Rows.cutEdgesSpec.pre6 enc Try.prog Try.f3 Rows.cutEdgesRow.domain false) (Rows.cutEdgesSpec.post enc Try.prog Try.f3 false true false false) := by
  refine returnsInHanded_of_change (C := Try.checked) own started (by kernel_rfl) Try.func3
    (ChangeSpec.witness6 (enc := enc) (C := Try.checked) false ⟨#[], #[.agg #[.int .i64 0, .int .i64 0], .agg #[.int .i64 0, .int .i64 0], .agg #[.int .i64 0, .int .i64 0, .int .i64 0, .int .i64 0], .int .i64 0], []⟩ 8 (by kernel_rfl) (by kernel_rfl) (by kernel_rfl) (by kernel_rfl)) ?_
  intro W base args ds gs before hval0 hW hcnd _
  have hval : ∀ (j : Nat) t v, Try.f3.params[j]? = some t → args[j]? = some v → Value.okWide Try.prog W .any base t v := hval0
  have hW' := hW
  obtain ⟨p, q, hA0, hV, rfl, hfz, hnd⟩ := hW
  have hA : DataW.TrodAll enc Try.prog W 0 (fun _ => true) true Try.f3.params.toList args.toList ds p := hA0
  rw [Try.params3] at hA hval
  obtain ⟨v0, vs0, d0, ds0, p0, q0, hargs, rfl, rfl, h0, r0⟩ := trodAll_cons hA
  obtain ⟨v1, vs1, d1, ds1, p1, q1, rfl, rfl, rfl, h1, r1⟩ := trodAll_cons r0
  obtain ⟨v2, vs2, d2, ds2, p2, q2, rfl, rfl, rfl, h2, r2⟩ := trodAll_cons r1
  obtain ⟨v3, vs3, d3, ds3, p3, q3, rfl, rfl, rfl, h3, r3⟩ := trodAll_cons r2
  obtain ⟨rfl, rfl, rfl⟩ := trodAll_nil r3
  obtain rfl : args = #[v0, v1, v2, v3] := by cases args; simp_all
  obtain ⟨rfl, rfl⟩ := trodVars_none hV
  obtain ⟨px0, py0, rfl, rfl, rfl, wx0, wy0, hback0⟩ := open_pt (hval 0 23 v0 rfl rfl) h0
  obtain ⟨px1, py1, rfl, rfl, rfl, wx1, wy1, hback1⟩ := open_pt (hval 1 23 v1 rfl rfl) h1
  obtain ⟨px2, py2, pu2, pv2, rfl, rfl, rfl, wx2, wy2, wu2, wv2, hback2⟩ := open_box (hval 2 25 v2 rfl rfl) h2
  obtain ⟨a3, rfl, rfl, rfl, w3⟩ := open_int Try.underlying3 (hval 3 3 v3 rfl rfl) h3
  clear hA0 hval0
  simp only [List.append_nil] at hW'
  refine (edges_law px0 py0 px1 py1 px2 py2 pu2 pv2 a3 W wx0 wy0 wx1 wy1 wx2 wy2 wu2 wv2 w3).mono fun e W' ⟨he, hg⟩ => ?_
  subst he
  exact ⟨_, rfl, law_post (t := 4) (by kernel_rfl) Try.underlying4 rfl rfl hW' rfl
    (fun sp hsp => (trodAll_cons_mk (hback0 W' 0 sp true) (trodAll_cons_mk (hback1 W' 0 sp true) (trodAll_cons_mk (hback2 W' 0 sp true) (trodAll_cons_mk (shut_int Try.underlying3 w3) trodAll_mk0))))) hg⟩

theorem over : Rows.cutEdgesRow.holds Try.pinned (OpenSpec.ofChange Rows.cutEdgesSpec) :=
  OpenClaim.holds_of_wide 3 Try.f3 rfl rfl rfl rfl rfl rfl rfl ⟨rfl, rfl, rfl, rfl, rfl⟩ rfl rfl rfl rfl rfl (by kernel_rfl) Try.func3 (by kernel_rfl)
    (of_decide_eq_true (by kernel_rfl)) (by unfold Func.isWrapper; first | (rw [if_pos (by decide +kernel)]; kernel_rfl) | (rw [if_neg (by decide +kernel)]; exact ⟨rfl, rfl⟩))
    (fun os started H enc _ => lifted os started H enc)
end Go.Proofs.Ytpdiojndfckmfaa.cutEdges
namespace Go.Proofs.Ytpdiojndfckmfaa
theorem cutEdges_holds : Rows.CutEdgesSaid := cutEdges.over
#print axioms cutEdges_holds
end Go.Proofs.Ytpdiojndfckmfaa
