/- For all grids TerrainPeaks returns true and leaves its argument as it was. No condition. -/
import Derived.Test.YthgdmcjahldihaaTerT
import Derived.Test.YthgdmcjahldihaaOpenC
namespace Go.Proofs.Ythgdmcjahldihaa.terrainPeaks
open Go.ChangeShapes Go.WideShapes Go.ChangeAt Go.RowKit
set_option linter.unusedVariables false

theorem own : ownKnob Try.prog.godebug = none := by kernel_rfl
set_option maxRecDepth 100000 in
theorem lifted (os : Os) (started : os.Started) (H : Type) (enc : TypeId × Value → H) :
    ReturnsInHanded {} Try.checked os 10 .any (Rows.terrainPeaksSpec.pre6 enc Try.prog Try.f10 Rows.terrainPeaksRow.domain false) (Rows.terrainPeaksSpec.post enc Try.prog Try.f10 false true false false) := by
  refine returnsInHanded_of_change (C := Try.checked) own started (by kernel_rfl) Try.func10
    (ChangeSpec.witness6 (enc := enc) (C := Try.checked) false ⟨#[], #[.agg #[.int .i64 0, .int .i64 0, .int .i64 0, .int .i64 0, .int .i64 0, .slice none 0 0]], []⟩ 8 (by kernel_rfl) (by kernel_rfl) (by kernel_rfl) (by kernel_rfl)) ?_
  intro W base args ds gs before hval0 hW hcnd _
  have hval : ∀ (j : Nat) t v, Try.f10.params[j]? = some t → args[j]? = some v → Value.okWide Try.prog W .any base t v := hval0
  have hW' := hW
  obtain ⟨p, q, hA0, hV, rfl, hfz, hnd⟩ := hW
  have hA : DataW.TrodAll enc Try.prog W 0 (fun _ => true) true Try.f10.params.toList args.toList ds p := hA0
  rw [Try.params10] at hA hval
  obtain ⟨v0, vs0, d0, ds0, p0, q0, hargs, rfl, rfl, h0, r0⟩ := trodAll_cons hA
  obtain ⟨rfl, rfl, rfl⟩ := trodAll_nil r0
  obtain rfl : args = #[v0] := by cases args; simp_all
  obtain ⟨rfl, rfl⟩ := trodVars_none hV
  obtain ⟨x, y, Wd, Ht, S, A, n, c, z, rfl, hI, hm, hwf, hback0⟩ := open_hgt (hval 0 26 v0 rfl rfl) h0
  clear hA0 hval0
  simp only [List.append_nil] at hW'
  have hcap := hgt_cap h0
  refine (peaks_any x y Wd Ht S A n c z W hcap.1 hcap.2 hI).mono fun e W' ⟨he, hg⟩ => ?_
  subst he
  exact ⟨_, rfl, law_post (t := 4) (by kernel_rfl) Try.underlying4 rfl rfl hW' rfl
    (fun sp hsp => by
      have h := (trodAll_cons_mk (hback0 W' sp hg (fun q hq => hsp q (by simp [hq]))) trodAll_mk0)
      simp only [List.append_nil] at h
      exact h) hg⟩

theorem over : Rows.terrainPeaksRow.holds Try.pinned (OpenSpec.ofChange Rows.terrainPeaksSpec) :=
  OpenClaim.holds_of_wide 10 Try.f10 rfl rfl rfl rfl rfl rfl rfl ⟨rfl, rfl, rfl, rfl, rfl⟩ rfl rfl rfl rfl rfl (by kernel_rfl) Try.func10 (by kernel_rfl)
    (of_decide_eq_true (by kernel_rfl)) (by unfold Func.isWrapper; first | (rw [if_pos (by decide +kernel)]; kernel_rfl) | (rw [if_neg (by decide +kernel)]; exact ⟨rfl, rfl⟩))
    (fun os started H enc _ => lifted os started H enc)
end Go.Proofs.Ythgdmcjahldihaa.terrainPeaks
namespace Go.Proofs.Ythgdmcjahldihaa
theorem terrainPeaks_holds : Rows.TerrainPeaksSaid := terrainPeaks.over
#print axioms terrainPeaks_holds
end Go.Proofs.Ythgdmcjahldihaa
