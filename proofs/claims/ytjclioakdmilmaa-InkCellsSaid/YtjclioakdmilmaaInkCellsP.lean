/- InkCells returns true for all points. No conditions. -/
import Derived.Test.YtjclioakdmilmaaInkCellsL
import Derived.Test.YtjclioakdmilmaaInkOpen
namespace Go.Proofs.Ytjclioakdmilmaa.inkCells
open Go.ChangeShapes Go.WideShapes Go.ChangeAt Go.RowKit
open Ink
set_option linter.unusedVariables false

theorem own : ownKnob Try.prog.godebug = none := by kernel_rfl
set_option maxRecDepth 100000 in
theorem lifted (os : Os) (started : os.Started) (H : Type) (enc : TypeId × Value → H) :
    ReturnsInHanded {} Try.checked os 8 .any (Rows.inkCellsSpec.pre6 enc Try.prog Try.f8 Rows.inkCellsRow.domain false) (Rows.inkCellsSpec.post enc Try.prog Try.f8 false true false false) := by
  refine returnsInHanded_of_change (C := Try.checked) own started (by kernel_rfl) Try.func8
    (ChangeSpec.witness6 (enc := enc) (C := Try.checked) false ⟨#[], #[.agg #[.int .i64 0, .int .i64 0], .agg #[.int .i64 0, .int .i64 0], .agg #[.int .i64 0, .int .i64 0]], []⟩ 8 (by kernel_rfl) (by kernel_rfl) (by kernel_rfl) (by kernel_rfl)) ?_
  intro W base args ds gs before hval0 hW hcnd _
  have hval : ∀ (j : Nat) t v, Try.f8.params[j]? = some t → args[j]? = some v → Value.okWide Try.prog W .any base t v := hval0
  have hW' := hW
  obtain ⟨p, q, hA0, hV, rfl, hfz, hnd⟩ := hW
  have hA : DataW.TrodAll enc Try.prog W 0 (fun _ => true) true Try.f8.params.toList args.toList ds p := hA0
  rw [Try.params8] at hA hval
  obtain ⟨v0, vs0, d0, ds0, p0, q0, hargs, rfl, rfl, h0, r0⟩ := trodAll_cons hA
  obtain ⟨v1, vs1, d1, ds1, p1, q1, rfl, rfl, rfl, h1, r1⟩ := trodAll_cons r0
  obtain ⟨v2, vs2, d2, ds2, p2, q2, rfl, rfl, rfl, h2, r2⟩ := trodAll_cons r1
  obtain ⟨rfl, rfl, rfl⟩ := trodAll_nil r2
  obtain rfl : args = #[v0, v1, v2] := by cases args; simp_all
  obtain ⟨rfl, rfl⟩ := trodVars_none hV
  obtain ⟨px0, py0, rfl, e0, -, wx0, wy0, -⟩ := open_pt (hval 0 29 v0 rfl rfl) h0
  obtain ⟨px1, py1, rfl, e1, -, wx1, wy1, -⟩ := open_pt (hval 1 29 v1 rfl rfl) h1
  obtain ⟨px2, py2, rfl, e2, -, wx2, wy2, -⟩ := open_pt (hval 2 29 v2 rfl rfl) h2
  clear hA0 hval0
  simp only [List.append_nil] at hW'
  have hlt := fun q hq => hW'.lt q hq
  refine (inkcells_law px0 py0 px1 py1 px2 py2 W (bounds_i64 wx0) (bounds_i64 wy0) (bounds_i64 wx1) (bounds_i64 wy1) (bounds_i64 wx2) (bounds_i64 wy2)).mono fun e W' ⟨he, hg⟩ => ?_
  subst he
  exact ⟨_, rfl, law_post (t := 4) (by kernel_rfl) Try.underlying4 rfl rfl hW' rfl
    (fun sp hsp => by
      have h := (trodAll_cons_mk (reads_on Try.sp_p h0 hg (fun q hq => hlt q (by simp [hq])) sp (fun q hq => hsp q (by simp [hq]))) (trodAll_cons_mk (reads_on Try.sp_p h1 hg (fun q hq => hlt q (by simp [hq])) sp (fun q hq => hsp q (by simp [hq]))) (trodAll_cons_mk (reads_on Try.sp_p h2 hg (fun q hq => hlt q (by simp [hq])) sp (fun q hq => hsp q (by simp [hq]))) trodAll_mk0)))
      simp only [List.append_nil] at h
      exact h) hg⟩

theorem over : Rows.inkCellsRow.holds Try.pinned (OpenSpec.ofChange Rows.inkCellsSpec) :=
  OpenClaim.holds_of_wide 8 Try.f8 rfl rfl rfl rfl rfl rfl rfl ⟨rfl, rfl, rfl, rfl, rfl⟩ rfl rfl rfl rfl rfl (by kernel_rfl) Try.func8 (by kernel_rfl)
    (of_decide_eq_true (by kernel_rfl)) (by unfold Func.isWrapper; first | (rw [if_pos (by decide +kernel)]; kernel_rfl) | (rw [if_neg (by decide +kernel)]; exact ⟨rfl, rfl⟩))
    (fun os started H enc _ => lifted os started H enc)
end Go.Proofs.Ytjclioakdmilmaa.inkCells
namespace Go.Proofs.Ytjclioakdmilmaa
theorem inkCells_holds : Rows.InkCellsSaid := inkCells.over
#print axioms inkCells_holds
end Go.Proofs.Ytjclioakdmilmaa
