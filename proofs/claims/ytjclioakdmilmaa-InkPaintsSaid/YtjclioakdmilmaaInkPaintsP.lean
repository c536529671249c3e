/- InkPaints returns true for all numbers of columns and rows and all lists of operations. No conditions. -/
import Derived.Test.YtjclioakdmilmaaInkPaintsAll
import Derived.Test.YtjclioakdmilmaaInkOpen
namespace Go.Proofs.Ytjclioakdmilmaa.inkPaints
open Go.ChangeShapes Go.WideShapes Go.ChangeAt Go.RowKit
open Ink
set_option linter.unusedVariables false

theorem own : ownKnob Try.prog.godebug = none := by kernel_rfl
set_option maxRecDepth 100000 in
theorem lifted (os : Os) (started : os.Started) (H : Type) (enc : TypeId × Value → H) :
    ReturnsInHanded {} Try.checked os 4 .any (Rows.inkPaintsSpec.pre6 enc Try.prog Try.f4 Rows.inkPaintsRow.domain false) (Rows.inkPaintsSpec.post enc Try.prog Try.f4 false true false false) := by
  refine returnsInHanded_of_change (C := Try.checked) own started (by kernel_rfl) Try.func4
    (ChangeSpec.witness6 (enc := enc) (C := Try.checked) false ⟨#[], #[.int .i64 0, .int .i64 0, .slice none 0 0], []⟩ 8 (by kernel_rfl) (by kernel_rfl) (by kernel_rfl) (by kernel_rfl)) ?_
  intro W base args ds gs before hval0 hW hcnd _
  have hval : ∀ (j : Nat) t v, Try.f4.params[j]? = some t → args[j]? = some v → Value.okWide Try.prog W .any base t v := hval0
  have hW' := hW
  obtain ⟨p, q, hA0, hV, rfl, hfz, hnd⟩ := hW
  have hA : DataW.TrodAll enc Try.prog W 0 (fun _ => true) true Try.f4.params.toList args.toList ds p := hA0
  rw [Try.params4] at hA hval
  obtain ⟨v0, vs0, d0, ds0, p0, q0, hargs, rfl, rfl, h0, r0⟩ := trodAll_cons hA
  obtain ⟨v1, vs1, d1, ds1, p1, q1, rfl, rfl, rfl, h1, r1⟩ := trodAll_cons r0
  obtain ⟨v2, vs2, d2, ds2, p2, q2, rfl, rfl, rfl, h2, r2⟩ := trodAll_cons r1
  obtain ⟨rfl, rfl, rfl⟩ := trodAll_nil r2
  obtain rfl : args = #[v0, v1, v2] := by cases args; simp_all
  obtain ⟨rfl, rfl⟩ := trodVars_none hV
  obtain ⟨a0, rfl, w0⟩ := open_i (hval 0 3 v0 rfl rfl) h0
  obtain ⟨a1, rfl, w1⟩ := open_i (hval 1 3 v1 rfl rfl) h1
  obtain ⟨D2, da2, dc2, rfl, hD2, hm2, hk2, hz2⟩ := open_draws (hval 2 36 v2 rfl rfl) h2
  clear hA0 hval0
  simp only [List.append_nil] at hW'
  have hlt := fun q hq => hW'.lt q hq
  refine (inkpaints_law a0 a1 D2 da2 dc2 W hD2 hm2 hk2).mono fun e W' ⟨he, hg⟩ => ?_
  subst he
  exact ⟨_, rfl, law_post (t := 4) (by kernel_rfl) Try.underlying4 rfl rfl hW' rfl
    (fun sp hsp => by
      have h := (trodAll_cons_mk (reads_on Try.sp_i h0 hg (fun q hq => hlt q (by simp [hq])) sp (fun q hq => hsp q (by simp [hq]))) (trodAll_cons_mk (reads_on Try.sp_i h1 hg (fun q hq => hlt q (by simp [hq])) sp (fun q hq => hsp q (by simp [hq]))) (trodAll_cons_mk (reads_on Try.sp_ds h2 hg (fun q hq => hlt q (by simp [hq])) sp (fun q hq => hsp q (by simp [hq]))) trodAll_mk0)))
      simp only [List.append_nil] at h
      exact h) hg⟩

theorem over : Rows.inkPaintsRow.holds Try.pinned (OpenSpec.ofChange Rows.inkPaintsSpec) :=
  OpenClaim.holds_of_wide 4 Try.f4 rfl rfl rfl rfl rfl rfl rfl ⟨rfl, rfl, rfl, rfl, rfl⟩ rfl rfl rfl rfl rfl (by kernel_rfl) Try.func4 (by kernel_rfl)
    (of_decide_eq_true (by kernel_rfl)) (by unfold Func.isWrapper; first | (rw [if_pos (by decide +kernel)]; kernel_rfl) | (rw [if_neg (by decide +kernel)]; exact ⟨rfl, rfl⟩))
    (fun os started H enc _ => lifted os started H enc)
end Go.Proofs.Ytjclioakdmilmaa.inkPaints
namespace Go.Proofs.Ytjclioakdmilmaa
theorem inkPaints_holds : Rows.InkPaintsSaid := inkPaints.over
#print axioms inkPaints_holds
end Go.Proofs.Ytjclioakdmilmaa
