/- A fraction as an argument: how it is opened, and that it reads the same later. -/
import Derived.Test.YtffmlpenohpjlaaOpenN
namespace Go.Proofs.Ytffmlpenohpjlaa
open Go.ChangeShapes Go.WideShapes Go.ChangeAt Go.RowKit Go.Joins
set_option linter.unusedVariables false
theorem cells_fr : Try.prog.cellsOf 34 = 2 := by kernel_rfl
theorem cells_fi : Try.prog.cellsOf 3 = 1 := by kernel_rfl
section
variable {H : Type} {enc : TypeId × Value → H}
theorem open_frac {W : World} {r : Reach} {b0 : Nat} {v : Value} {d : DataW H} {p : List MemPlace} (hv : Value.okWide Try.prog W r b0 34 v) (h : DataW.Trod enc Try.prog W 0 (fun _ => true) true 34 v d p) :
    ∃ a b : Int, v = .agg #[.int .i64 a, .int .i64 b] ∧ d = .agg [.lit (.int .i64 a), .lit (.int .i64 b)] ∧ p = [] ∧ (Lit.int .i64 a).wf = true ∧ (Lit.int .i64 b).wf = true ∧
      ∀ (W' : World) (base : Nat) (sp : Nat → Bool) (held : Bool), DataW.Trod enc Try.prog W' base sp held 34 v d p := by
  obtain ⟨cs, rfl, hsz⟩ := okWide_struct Try.underlying34 hv
  obtain ⟨l⟩ := cs
  match l, hsz.trans cells_fr with
  | [c0, c1], _ =>
    obtain ⟨fuel, hf⟩ := h
    simp only [Value.cells] at hf
    obtain ⟨y0, y1, n, hx, -, h0, h1⟩ := trod_struct2 Try.underlying34 hf
    rw [cells_fi] at h0 h1
    obtain ⟨a, ha, rfl, wa⟩ := DataW.trod_int Try.underlying3 h0
    obtain ⟨b, hb, rfl, wb⟩ := DataW.trod_int Try.underlying3 h1
    simp at ha hb
    subst ha
    subst hb
    simp only [Prod.mk.injEq] at hx
    obtain ⟨rfl, rfl⟩ := hx
    refine ⟨a, b, rfl, rfl, rfl, wa, wb, fun W' base sp held => ⟨2, ?_⟩⟩
    have := trod_struct2_mk (enc := enc) (w := W') (base := base) (spare := sp) (held := held) (n := 1) (cs := [.int .i64 a, .int .i64 b]) (y0 := (.lit (.int .i64 a), [])) (y1 := (.lit (.int .i64 b), [])) Try.underlying34 (by rw [cells_fr]; rfl)
      (by rw [cells_fi]; exact trod_int_mk 0 Try.underlying3 wa) (by rw [cells_fi]; exact trod_int_mk 0 Try.underlying3 wb)
    simpa [Value.cells] using this
end
end Go.Proofs.Ytffmlpenohpjlaa
