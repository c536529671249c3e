/- (geom) Points and boxes as arguments, and the last step of a law's row: the call has returned true in a world that has only grown, and the arguments read as before. -/
import Derived.Test.YtjclioakdmilmaaBox
import Derived.Below
import Derived.ChangeSame
import Derived.ProofKit
import Derived.OpenShut
import Derived.Lib.SmallJoins
namespace Go.Proofs.Ytjclioakdmilmaa
open Go.ChangeShapes Go.WideShapes Go.ChangeAt Go.RowKit Go.Joins
set_option linter.unusedVariables false
section
variable {H : Type} {enc : TypeId × Value → H} {P : Program}
theorem law_post {f : Func} {s : ChangeSpec} {W W' : World} {args : Array Value} {ds : List (DataW H)} {p : List MemPlace} {t : TypeId} (ht : f.resultTypes = #[t]) (hu : P.underlying t = some .bool) (hv : s.vars = []) (hv' : (s.fn H ds).vars = [])
    (hW : DataW.Whole enc P f.params.toList s.vars false W args.toList ds [] p) (hr : (s.fn H ds).results = [.lit (.bool true)])
    (ha : ∀ sp : Nat → Bool, (∀ q ∈ p, sp q.block = true) → DataW.TrodAll enc P W' 0 sp true f.params.toList args.toList (s.fn H ds).args p) (hb : Below W.heap.size W W') :
    s.post enc P f false true false false W args (.bool true) W' := by
  have hlt : ∀ q ∈ p, q.block < W.heap.size := fun q hq => hW.lt q hq
  have hone : (Value.bool true).resultList f.resultTypes.size = [.bool true] := by rw [ht]; rfl
  have hres : ∀ (b : Nat) (sp : Nat → Bool) (hd : Bool), DataW.TrodAll enc P W' b sp hd f.resultTypes.toList ((Value.bool true).resultList f.resultTypes.size) (s.fn H (ds ++ [])).results [] := fun b sp hd => by
    rw [hone, ht, List.append_nil, hr]
    exact trodAll_cons_mk (shut_bool hu _) trodAll_mk0
  have hvar : ∀ sp : Nat → Bool, DataW.TrodVars enc P W' sp s.vars (s.fn H (ds ++ [])).vars [] := fun sp => by rw [hv, List.append_nil, hv']; rfl
  have harg : ∀ sp : Nat → Bool, (∀ q ∈ p, sp q.block = true) → DataW.TrodAll enc P W' 0 sp true f.params.toList args.toList (s.fn H (ds ++ [])).args p := fun sp h => by rw [List.append_nil]; exact ha sp h
  have hold : ∀ q ∈ p, (fun b => decide (b < W.heap.size)) q.block = true := fun q hq => decide_eq_true (hlt q hq)
  exact ⟨ds, [], p, [], p, [], hW, hres _ _ _, harg _ hold, hvar _, World.keptBut_mono (fun q hq => ⟨hq, Or.inr (by simpa using hq)⟩) (hb.frame (· ∈ p)), fun h => by cases h⟩
end
theorem cells_fr : Try.prog.cellsOf 29 = 2 := by kernel_rfl
theorem cells_fi : Try.prog.cellsOf 3 = 1 := by kernel_rfl
section
variable {H : Type} {enc : TypeId × Value → H}
theorem open_pt {W : World} {r : Reach} {b0 : Nat} {v : Value} {d : DataW H} {p : List MemPlace} (hv : Value.okWide Try.prog W r b0 29 v) (h : DataW.Trod enc Try.prog W 0 (fun _ => true) true 29 v d p) :
    ∃ a b : Int, v = .agg #[.int .i64 a, .int .i64 b] ∧ d = .agg [.lit (.int .i64 a), .lit (.int .i64 b)] ∧ p = [] ∧ (Lit.int .i64 a).wf = true ∧ (Lit.int .i64 b).wf = true ∧
      ∀ (W' : World) (base : Nat) (sp : Nat → Bool) (held : Bool), DataW.Trod enc Try.prog W' base sp held 29 v d p := by
  obtain ⟨cs, rfl, hsz⟩ := okWide_struct Try.underlying29 hv
  obtain ⟨l⟩ := cs
  match l, hsz.trans cells_fr with
  | [c0, c1], _ =>
    obtain ⟨fuel, hf⟩ := h
    simp only [Value.cells] at hf
    obtain ⟨y0, y1, n, hx, -, h0, h1⟩ := trod_struct2 Try.underlying29 hf
    rw [cells_fi] at h0 h1
    obtain ⟨a, ha, rfl, wa⟩ := DataW.trod_int Try.underlying3 h0
    obtain ⟨b, hb, rfl, wb⟩ := DataW.trod_int Try.underlying3 h1
    simp at ha hb
    subst ha
    subst hb
    simp only [Prod.mk.injEq] at hx
    obtain ⟨rfl, rfl⟩ := hx
    refine ⟨a, b, rfl, rfl, rfl, wa, wb, fun W' base sp held => ⟨2, ?_⟩⟩
    have := trod_struct2_mk (enc := enc) (w := W') (base := base) (spare := sp) (held := held) (n := 1) (cs := [.int .i64 a, .int .i64 b]) (y0 := (.lit (.int .i64 a), [])) (y1 := (.lit (.int .i64 b), [])) Try.underlying29 (by rw [cells_fr]; rfl)
      (by rw [cells_fi]; exact trod_int_mk 0 Try.underlying3 wa) (by rw [cells_fi]; exact trod_int_mk 0 Try.underlying3 wb)
    simpa [Value.cells] using this
end
theorem cells_bx : Try.prog.cellsOf 23 = 4 := by kernel_rfl
section
variable {H : Type} {enc : TypeId × Value → H}
theorem open_box {W : World} {r : Reach} {b0 : Nat} {v : Value} {d : DataW H} {p : List MemPlace} (hv : Value.okWide Try.prog W r b0 23 v) (h : DataW.Trod enc Try.prog W 0 (fun _ => true) true 23 v d p) :
    ∃ a b c e : Int, v = .agg #[.int .i64 a, .int .i64 b, .int .i64 c, .int .i64 e] ∧ d = .agg [.lit (.int .i64 a), .lit (.int .i64 b), .lit (.int .i64 c), .lit (.int .i64 e)] ∧ p = [] ∧ (Lit.int .i64 a).wf = true ∧ (Lit.int .i64 b).wf = true ∧ (Lit.int .i64 c).wf = true ∧ (Lit.int .i64 e).wf = true ∧
      ∀ (W' : World) (base : Nat) (sp : Nat → Bool) (held : Bool), DataW.Trod enc Try.prog W' base sp held 23 v d p := by
  obtain ⟨cs, rfl, hsz⟩ := okWide_struct Try.underlying23 hv
  obtain ⟨l⟩ := cs
  match l, hsz.trans cells_bx with
  | [c0, c1, c2, c3], _ =>
    obtain ⟨fuel, hf⟩ := h
    simp only [Value.cells] at hf
    obtain ⟨y0, y1, y2, y3, n, hx, -, h0, h1, h2, h3⟩ := trod_struct4 Try.underlying23 hf
    rw [cells_fi] at h0 h1 h2 h3
    obtain ⟨a, ha, rfl, wa⟩ := DataW.trod_int Try.underlying3 h0
    obtain ⟨b, hb, rfl, wb⟩ := DataW.trod_int Try.underlying3 h1
    obtain ⟨c, hc, rfl, wc⟩ := DataW.trod_int Try.underlying3 h2
    obtain ⟨e, he, rfl, we⟩ := DataW.trod_int Try.underlying3 h3
    simp at ha hb hc he
    subst ha
    subst hb
    subst hc
    subst he
    simp only [Prod.mk.injEq] at hx
    obtain ⟨rfl, rfl⟩ := hx
    refine ⟨a, b, c, e, rfl, rfl, rfl, wa, wb, wc, we, fun W' base sp held => ⟨2, ?_⟩⟩
    have := trod_struct4_mk (enc := enc) (w := W') (base := base) (spare := sp) (held := held) (n := 1) (cs := [.int .i64 a, .int .i64 b, .int .i64 c, .int .i64 e]) (y0 := (.lit (.int .i64 a), [])) (y1 := (.lit (.int .i64 b), [])) (y2 := (.lit (.int .i64 c), [])) (y3 := (.lit (.int .i64 e), [])) Try.underlying23 (by rw [cells_bx]; rfl)
      (by rw [cells_fi]; exact trod_int_mk 0 Try.underlying3 wa) (by rw [cells_fi]; exact trod_int_mk 0 Try.underlying3 wb) (by rw [cells_fi]; exact trod_int_mk 0 Try.underlying3 wc) (by rw [cells_fi]; exact trod_int_mk 0 Try.underlying3 we)
    simpa [Value.cells] using this
end
end Go.Proofs.Ytjclioakdmilmaa
