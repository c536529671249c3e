/- CutCrosses returns true for all segments. No conditions. -/
import Derived.Test.YtpdiojndfckmfaaCutCrosses
import Derived.Test.YtpdiojndfckmfaaCutSeg
import Derived.Test.YtpdiojndfckmfaaGeoOpen
namespace Go.Proofs.Ytpdiojndfckmfaa.cutCrosses
open Go.ChangeShapes Go.WideShapes Go.ChangeAt Go.RowKit
set_option linter.unusedVariables false

theorem own : ownKnob Try.prog.godebug = none := by kernel_rfl
set_option maxRecDepth 100000 in
theorem lifted (os : Os) (started : os.Started) (H : Type) (enc : TypeId × Value → H) :
    ReturnsInHanded {} Try.checked os 4 .any (Rows.cutCrossesSpec.pre6 enc Try.prog Try.f4 Rows.cutCrossesRow.domain false) (Rows.cutCrossesSpec.post enc Try.prog Try.f4 false true false false) := by
  refine returnsInHanded_of_change (C := Try.checked) own started (by kernel_rfl) Try.func4
    (ChangeSpec.witness6 (enc := enc) (C := Try.checked) false ⟨#[], #[.agg #[.int .i64 0, .int .i64 0, .int .i64 0, .int .i64 0, .int .i64 0, .int .i64 0, .int .i64 0, .int .i64 0]], []⟩ 8 (by kernel_rfl) (by kernel_rfl) (by kernel_rfl) (by kernel_rfl)) ?_
  intro W base args ds gs before hval0 hW hcnd _
  have hval : ∀ (j : Nat) t v, Try.f4.params[j]? = some t → args[j]? = some v → Value.okWide Try.prog W .any base t v := hval0
  have hW' := hW
  obtain ⟨p, q, hA0, hV, rfl, hfz, hnd⟩ := hW
  have hA : DataW.TrodAll enc Try.prog W 0 (fun _ => true) true Try.f4.params.toList args.toList ds p := hA0
  rw [Try.params4] at hA hval
  obtain ⟨v0, vs0, d0, ds0, p0, q0, hargs, rfl, rfl, h0, r0⟩ := trodAll_cons hA
  obtain ⟨rfl, rfl, rfl⟩ := trodAll_nil r0
  obtain rfl : args = #[v0] := by cases args; simp_all
  obtain ⟨rfl, rfl⟩ := trodVars_none hV
  obtain ⟨sa0, sb0, sc0, sd0, se0, sf0, sg0, sh0, rfl, rfl, hback0⟩ := open_seg (hval 0 34 v0 rfl rfl) h0
  clear hA0 hval0
  simp only [List.append_nil] at hW'
  refine (crosses_law sa0 sb0 sc0 sd0 se0 sf0 sg0 sh0 W).mono fun e W' ⟨he, hg⟩ => ?_
  subst he
  exact ⟨_, rfl, law_post (t := 4) (by kernel_rfl) Try.underlying4 rfl rfl hW' rfl
    (fun sp hsp => (trodAll_cons_mk (hback0 W' 0 sp true) trodAll_mk0)) hg⟩

theorem over : Rows.cutCrossesRow.holds Try.pinned (OpenSpec.ofChange Rows.cutCrossesSpec) :=
  OpenClaim.holds_of_wide 4 Try.f4 rfl rfl rfl rfl rfl rfl rfl ⟨rfl, rfl, rfl, rfl, rfl⟩ rfl rfl rfl rfl rfl (by kernel_rfl) Try.func4 (by kernel_rfl)
    (of_decide_eq_true (by kernel_rfl)) (by unfold Func.isWrapper; first | (rw [if_pos (by decide +kernel)]; kernel_rfl) | (rw [if_neg (by decide +kernel)]; exact ⟨rfl, rfl⟩))
    (fun os started H enc _ => lifted os started H enc)
end Go.Proofs.Ytpdiojndfckmfaa.cutCrosses
namespace Go.Proofs.Ytpdiojndfckmfaa
theorem cutCrosses_holds : Rows.CutCrossesSaid := cutCrosses.over
#print axioms cutCrosses_holds
end Go.Proofs.Ytpdiojndfckmfaa
