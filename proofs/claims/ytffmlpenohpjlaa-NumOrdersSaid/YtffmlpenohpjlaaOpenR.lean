/- An array of two int16 as an argument: how it is opened, and that it reads the same later. -/
import Derived.Test.YtffmlpenohpjlaaOpenN
namespace Go.Proofs.Ytffmlpenohpjlaa
open Go.ChangeShapes Go.WideShapes Go.RowKit
set_option linter.unusedVariables false
theorem cells_a2 : Try.prog.cellsOf 42 = 2 := by kernel_rfl
theorem cells_i16 : Try.prog.cellsOf 41 = 1 := by kernel_rfl
section
variable {H : Type} {enc : TypeId × Value → H}
theorem okWide_arr {P : Program} {w : World} {r : Reach} {base : Nat} {t e : TypeId} {n : Nat} {v : Value} (ht : P.underlying t = some (.array n e)) (h : Value.okWide P w r base t v) : ∃ cs, v = .agg cs ∧ cs.size = P.cellsOf t := by
  simp only [Value.okWide, ht] at h
  obtain ⟨cs, h1, h2, _⟩ := h
  exact ⟨cs, h1, h2⟩
theorem open_a2 {W : World} {r : Reach} {b0 : Nat} {v : Value} {d : DataW H} {p : List MemPlace} (hv : Value.okWide Try.prog W r b0 42 v) (h : DataW.Trod enc Try.prog W 0 (fun _ => true) true 42 v d p) :
    ∃ a b : Int, v = .agg #[.int .i16 a, .int .i16 b] ∧ d = .agg [.lit (.int .i16 a), .lit (.int .i16 b)] ∧ p = [] ∧ (Lit.int .i16 a).wf = true ∧ (Lit.int .i16 b).wf = true ∧
      ∀ (W' : World) (base : Nat) (sp : Nat → Bool) (held : Bool), DataW.Trod enc Try.prog W' base sp held 42 v d p := by
  obtain ⟨cs, rfl, hsz⟩ := okWide_arr Try.underlying42 hv
  obtain ⟨l⟩ := cs
  match l, hsz.trans cells_a2 with
  | [c0, c1], _ =>
    obtain ⟨fuel, hf⟩ := h
    cases fuel with
    | zero => simp [DataW.trod] at hf
    | succ n =>
      have r2 : List.range 2 = [0, 1] := rfl
      simp only [Value.cells] at hf
      unfold DataW.trod at hf
      rw [Try.underlying42] at hf
      simp [r2, cells_i16, cells_a2] at hf
      cases h0 : DataW.trod enc Try.prog W 0 (fun _ => true) true n 41 [c0] with
      | none => simp [h0] at hf
      | some y0 =>
        cases h1 : DataW.trod enc Try.prog W 0 (fun _ => true) true n 41 [c1] with
        | none => simp [h0, h1] at hf
        | some y1 =>
          obtain ⟨a, ha, rfl, wa⟩ := DataW.trod_int Try.underlying41 h0
          obtain ⟨b, hb, rfl, wb⟩ := DataW.trod_int Try.underlying41 h1
          simp at ha hb
          subst ha
          subst hb
          simp [h0, h1] at hf
          obtain ⟨rfl, rfl⟩ := hf
          refine ⟨a, b, rfl, rfl, rfl, wa, wb, fun W' base sp held => ⟨2, ?_⟩⟩
          have k0 : DataW.trod enc Try.prog W' base sp held 1 41 [.int .i16 a] = some (.lit (.int .i16 a), []) := trod_int_mk 0 Try.underlying41 wa
          have k1 : DataW.trod enc Try.prog W' base sp held 1 41 [.int .i16 b] = some (.lit (.int .i16 b), []) := trod_int_mk 0 Try.underlying41 wb
          simp only [Value.cells]
          unfold DataW.trod
          rw [Try.underlying42]
          simp [r2, cells_i16, cells_a2, k0, k1]
end
end Go.Proofs.Ytffmlpenohpjlaa
