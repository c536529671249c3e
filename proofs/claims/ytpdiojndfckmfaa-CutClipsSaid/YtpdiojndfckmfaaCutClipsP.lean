/- CutClips returns true for all segments and boxes. No conditions. -/
import Derived.Test.YtpdiojndfckmfaaCutClipsAll
import Derived.Test.YtpdiojndfckmfaaGeoOpen
namespace Go.Proofs.Ytpdiojndfckmfaa.cutClips
open Go.ChangeShapes Go.WideShapes Go.ChangeAt Go.RowKit
set_option linter.unusedVariables false

theorem own : ownKnob Try.prog.godebug = none := by kernel_rfl
set_option maxRecDepth 100000 in
theorem lifted (os : Os) (started : os.Started) (H : Type) (enc : TypeId × Value → H) :
    ReturnsInHanded {} Try.checked os 6 .any (Rows.cutClipsSpec.pre6 enc Try.prog Try.f6 Rows.cutClipsRow.domain false) (Rows.cutClipsSpec.post enc Try.prog Try.f6 false true false false) := by
  refine returnsInHanded_of_change (C := Try.checked) own started (by kernel_rfl) Try.func6
    (ChangeSpec.witness6 (enc := enc) (C := Try.checked) false ⟨#[], #[.agg #[.int .i64 0, .int .i64 0], .agg #[.int .i64 0, .int .i64 0], .agg #[.int .i64 0, .int .i64 0, .int .i64 0, .int .i64 0]], []⟩ 8 (by kernel_rfl) (by kernel_rfl) (by kernel_rfl) (by kernel_rfl)) ?_
  intro W base args ds gs before hval0 hW hcnd _
  have hval : ∀ (j : Nat) t v, Try.f6.params[j]? = some t → args[j]? = some v → Value.okWide Try.prog W .any base t v := hval0
  have hW' := hW
  obtain ⟨p, q, hA0, hV, rfl, hfz, hnd⟩ := hW
  have hA : DataW.TrodAll enc Try.prog W 0 (fun _ => true) true Try.f6.params.toList args.toList ds p := hA0
  rw [Try.params6] at hA hval
  obtain ⟨v0, vs0, d0, ds0, p0, q0, hargs, rfl, rfl, h0, r0⟩ := trodAll_cons hA
  obtain ⟨v1, vs1, d1, ds1, p1, q1, rfl, rfl, rfl, h1, r1⟩ := trodAll_cons r0
  obtain ⟨v2, vs2, d2, ds2, p2, q2, rfl, rfl, rfl, h2, r2⟩ := trodAll_cons r1
  obtain ⟨rfl, rfl, rfl⟩ := trodAll_nil r2
  obtain rfl : args = #[v0, v1, v2] := by cases args; simp_all
  obtain ⟨rfl, rfl⟩ := trodVars_none hV
  obtain ⟨px0, py0, rfl, rfl, rfl, wx0, wy0, hback0⟩ := open_pt (hval 0 23 v0 rfl rfl) h0
  obtain ⟨px1, py1, rfl, rfl, rfl, wx1, wy1, hback1⟩ := open_pt (hval 1 23 v1 rfl rfl) h1
  obtain ⟨px2, py2, pu2, pv2, rfl, rfl, rfl, wx2, wy2, wu2, wv2, hback2⟩ := open_box (hval 2 25 v2 rfl rfl) h2
  clear hA0 hval0
  simp only [List.append_nil] at hW'
  refine (clips_law px0 py0 px1 py1 px2 py2 pu2 pv2 W wx0 wy0 wx1 wy1 wx2 wy2 wu2 wv2).mono fun e W' ⟨he, hg⟩ => ?_
  subst he
  exact ⟨_, rfl, law_post (t := 4) (by kernel_rfl) Try.underlying4 rfl rfl hW' rfl
    (fun sp hsp => (trodAll_cons_mk (hback0 W' 0 sp true) (trodAll_cons_mk (hback1 W' 0 sp true) (trodAll_cons_mk (hback2 W' 0 sp true) trodAll_mk0)))) hg⟩

theorem over : Rows.cutClipsRow.holds Try.pinned (OpenSpec.ofChange Rows.cutClipsSpec) :=
  OpenClaim.holds_of_wide 6 Try.f6 rfl rfl rfl rfl rfl rfl rfl ⟨rfl, rfl, rfl, rfl, rfl⟩ rfl rfl rfl rfl rfl (by kernel_rfl) Try.func6 (by kernel_rfl)
    (of_decide_eq_true (by kernel_rfl)) (by unfold Func.isWrapper; first | (rw [if_pos (by decide +kernel)]; kernel_rfl) | (rw [if_neg (by decide +kernel)]; exact ⟨rfl, rfl⟩))
    (fun os started H enc _ => lifted os started H enc)
end Go.Proofs.Ytpdiojndfckmfaa.cutClips
namespace Go.Proofs.Ytpdiojndfckmfaa
theorem cutClips_holds : Rows.CutClipsSaid := cutClips.over
#print axioms cutClips_holds
end Go.Proofs.Ytpdiojndfckmfaa
