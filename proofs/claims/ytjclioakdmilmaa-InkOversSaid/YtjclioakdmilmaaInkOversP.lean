/- InkOvers returns true for any four plates and all lists of operations. No conditions. -/
import Derived.Test.YtjclioakdmilmaaInkOversAll
import Derived.Test.YtjclioakdmilmaaInkOpenB
import Derived.Test.YtjclioakdmilmaaInkOpen
namespace Go.Proofs.Ytjclioakdmilmaa.inkOvers
open Go.ChangeShapes Go.WideShapes Go.ChangeAt Go.RowKit
open Ink
set_option linter.unusedVariables false

theorem own : ownKnob Try.prog.godebug = none := by kernel_rfl
set_option maxRecDepth 100000 in
theorem lifted (os : Os) (started : os.Started) (H : Type) (enc : TypeId × Value → H) :
    ReturnsInHanded {} Try.checked os 5 .any (Rows.inkOversSpec.pre6 enc Try.prog Try.f5 Rows.inkOversRow.domain false) (Rows.inkOversSpec.post enc Try.prog Try.f5 false true false false) := by
  refine returnsInHanded_of_change (C := Try.checked) own started (by kernel_rfl) Try.func5
    (ChangeSpec.witness6 (enc := enc) (C := Try.checked) false ⟨#[], #[.agg #[.int .i64 0, .int .i64 0, .slice none 0 0, .int .i64 0, .int .i64 0, .slice none 0 0, .int .i64 0, .int .i64 0, .slice none 0 0, .int .i64 0, .int .i64 0, .slice none 0 0], .slice none 0 0], []⟩ 8 (by kernel_rfl) (by kernel_rfl) (by kernel_rfl) (by kernel_rfl)) ?_
  intro W base args ds gs before hval0 hW hcnd _
  have hval : ∀ (j : Nat) t v, Try.f5.params[j]? = some t → args[j]? = some v → Value.okWide Try.prog W .any base t v := hval0
  have hW' := hW
  obtain ⟨p, q, hA0, hV, rfl, hfz, hnd⟩ := hW
  have hA : DataW.TrodAll enc Try.prog W 0 (fun _ => true) true Try.f5.params.toList args.toList ds p := hA0
  rw [Try.params5] at hA hval
  obtain ⟨v0, vs0, d0, ds0, p0, q0, hargs, rfl, rfl, h0, r0⟩ := trodAll_cons hA
  obtain ⟨v1, vs1, d1, ds1, p1, q1, rfl, rfl, rfl, h1, r1⟩ := trodAll_cons r0
  obtain ⟨rfl, rfl, rfl⟩ := trodAll_nil r1
  obtain rfl : args = #[v0, v1] := by cases args; simp_all
  obtain ⟨rfl, rfl⟩ := trodVars_none hV
  obtain ⟨ws0, hs0, ad0, cp0, vs0, rfl, hN0, hw0, hh0, hm0⟩ := open_plates (hval 0 41 v0 rfl rfl) h0
  obtain ⟨D1, da1, dc1, rfl, hD1, hm1, hk1, hz1⟩ := open_draws (hval 1 36 v1 rfl rfl) h1
  clear hA0 hval0
  simp only [List.append_nil] at hW'
  have hlt := fun q hq => hW'.lt q hq
  refine (inkovers_law ws0 hs0 ad0 cp0 vs0 D1 da1 dc1 W hN0 hw0 hh0 hD1 hm1 hk1).mono fun e W' ⟨he, hg⟩ => ?_
  subst he
  exact ⟨_, rfl, law_post (t := 4) (by kernel_rfl) Try.underlying4 rfl rfl hW' rfl
    (fun sp hsp => by
      have h := (trodAll_cons_mk (reads_on Try.sp_p4 h0 hg (fun q hq => hlt q (by simp [hq])) sp (fun q hq => hsp q (by simp [hq]))) (trodAll_cons_mk (reads_on Try.sp_ds h1 hg (fun q hq => hlt q (by simp [hq])) sp (fun q hq => hsp q (by simp [hq]))) trodAll_mk0))
      simp only [List.append_nil] at h
      exact h) hg⟩

theorem over : Rows.inkOversRow.holds Try.pinned (OpenSpec.ofChange Rows.inkOversSpec) :=
  OpenClaim.holds_of_wide 5 Try.f5 rfl rfl rfl rfl rfl rfl rfl ⟨rfl, rfl, rfl, rfl, rfl⟩ rfl rfl rfl rfl rfl (by kernel_rfl) Try.func5 (by kernel_rfl)
    (of_decide_eq_true (by kernel_rfl)) (by unfold Func.isWrapper; first | (rw [if_pos (by decide +kernel)]; kernel_rfl) | (rw [if_neg (by decide +kernel)]; exact ⟨rfl, rfl⟩))
    (fun os started H enc _ => lifted os started H enc)
end Go.Proofs.Ytjclioakdmilmaa.inkOvers
namespace Go.Proofs.Ytjclioakdmilmaa
theorem inkOvers_holds : Rows.InkOversSaid := inkOvers.over
#print axioms inkOvers_holds
end Go.Proofs.Ytjclioakdmilmaa
