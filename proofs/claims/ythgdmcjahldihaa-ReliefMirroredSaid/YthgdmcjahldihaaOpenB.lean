/- The last step of a law's row: the call has returned true in a world that has only grown, and the arguments read as before. -/
import Derived.Test.YthgdmcjahldihaaOpenA
namespace Go.Proofs.Ythgdmcjahldihaa
open Go.RowKit Go.WideShapes Go.ChangeShapes
set_option linter.unusedVariables false
section
variable {H : Type} {enc : TypeId × Value → H} {P : Program}
theorem law_post {f : Func} {s : ChangeSpec} {W W' : World} {args : Array Value} {ds : List (DataW H)} {p : List MemPlace} {t : TypeId} (ht : f.resultTypes = #[t]) (hu : P.underlying t = some .bool) (hv : s.vars = []) (hv' : (s.fn H ds).vars = [])
    (hW : DataW.Whole enc P f.params.toList s.vars false W args.toList ds [] p) (hr : (s.fn H ds).results = [.lit (.bool true)])
    (ha : ∀ sp : Nat → Bool, (∀ q ∈ p, sp q.block = true) → DataW.TrodAll enc P W' 0 sp true f.params.toList args.toList (s.fn H ds).args p) (hb : Below W.heap.size W W') :
    s.post enc P f false true false false W args (.bool true) W' := by
  have hlt : ∀ q ∈ p, q.block < W.heap.size := fun q hq => hW.lt q hq
  have hone : (Value.bool true).resultList f.resultTypes.size = [.bool true] := by rw [ht]; rfl
  have hres : ∀ (b : Nat) (sp : Nat → Bool) (hd : Bool), DataW.TrodAll enc P W' b sp hd f.resultTypes.toList ((Value.bool true).resultList f.resultTypes.size) (s.fn H (ds ++ [])).results [] := fun b sp hd => by
    rw [hone, ht, List.append_nil, hr]
    exact trodAll_cons_mk (shut_bool hu _) trodAll_mk0
  have hvar : ∀ sp : Nat → Bool, DataW.TrodVars enc P W' sp s.vars (s.fn H (ds ++ [])).vars [] := fun sp => by rw [hv, List.append_nil, hv']; rfl
  have harg : ∀ sp : Nat → Bool, (∀ q ∈ p, sp q.block = true) → DataW.TrodAll enc P W' 0 sp true f.params.toList args.toList (s.fn H (ds ++ [])).args p := fun sp h => by rw [List.append_nil]; exact ha sp h
  have hold : ∀ q ∈ p, (fun b => decide (b < W.heap.size)) q.block = true := fun q hq => decide_eq_true (hlt q hq)
  exact ⟨ds, [], p, [], p, [], hW, hres _ _ _, harg _ hold, hvar _, World.keptBut_mono (fun q hq => ⟨hq, Or.inr (by simpa using hq)⟩) (hb.frame (· ∈ p)), fun h => by cases h⟩
end
end Go.Proofs.Ythgdmcjahldihaa
