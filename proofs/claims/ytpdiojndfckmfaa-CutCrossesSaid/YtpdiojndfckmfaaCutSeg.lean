/- Two segments as an argument: a struct of four points. -/
import Derived.Test.YtpdiojndfckmfaaGeoOpen
namespace Go.Proofs.Ytpdiojndfckmfaa
open Go.ChangeShapes Go.WideShapes Go.ChangeAt Go.RowKit Go.Joins
set_option linter.unusedVariables false
theorem cells_sg : Try.prog.cellsOf 34 = 8 := by kernel_rfl
section
variable {H : Type} {enc : TypeId × Value → H}
theorem pt_cells {W : World} {n : Nat} {c0 c1 : Value} {y : DataW H × List MemPlace} (hf : DataW.trod enc Try.prog W 0 (fun _ => true) true n 23 [c0, c1] = some y) :
    ∃ a b : Int, c0 = .int .i64 a ∧ c1 = .int .i64 b ∧ y = (.agg [.lit (.int .i64 a), .lit (.int .i64 b)], []) ∧ (Lit.int .i64 a).wf = true ∧ (Lit.int .i64 b).wf = true ∧
      ∀ (W' : World) (base : Nat) (sp : Nat → Bool) (held : Bool), DataW.trod enc Try.prog W' base sp held 2 23 [.int .i64 a, .int .i64 b] = some y := by
  obtain ⟨y0, y1, n, hx, -, h0, h1⟩ := trod_struct2 Try.underlying23 hf
  rw [cells_fi] at h0 h1
  obtain ⟨a, ha, ⟨rfl⟩, wa⟩ := DataW.trod_int Try.underlying3 h0
  obtain ⟨b, hb, ⟨rfl⟩, wb⟩ := DataW.trod_int Try.underlying3 h1
  simp at ha hb
  subst ha
  subst hb
  refine ⟨a, b, rfl, rfl, by simpa using hx, wa, wb, fun W' base sp held => ?_⟩
  have := trod_struct2_mk (enc := enc) (w := W') (base := base) (spare := sp) (held := held) (n := 1) (cs := [.int .i64 a, .int .i64 b]) (y0 := (.lit (.int .i64 a), [])) (y1 := (.lit (.int .i64 b), [])) Try.underlying23 (by rw [cells_fr]; rfl)
    (by rw [cells_fi]; exact trod_int_mk 0 Try.underlying3 wa) (by rw [cells_fi]; exact trod_int_mk 0 Try.underlying3 wb)
  rw [hx]
  simpa using this
theorem open_seg {W : World} {r : Reach} {b0 : Nat} {v : Value} {d : DataW H} {p : List MemPlace} (hv : Value.okWide Try.prog W r b0 34 v) (h : DataW.Trod enc Try.prog W 0 (fun _ => true) true 34 v d p) :
    ∃ ax ay bx by_ cx cy dx dy : Int, v = .agg #[.int .i64 ax, .int .i64 ay, .int .i64 bx, .int .i64 by_, .int .i64 cx, .int .i64 cy, .int .i64 dx, .int .i64 dy] ∧ p = [] ∧
      ∀ (W' : World) (base : Nat) (sp : Nat → Bool) (held : Bool), DataW.Trod enc Try.prog W' base sp held 34 v d p := by
  obtain ⟨cs, rfl, hsz⟩ := okWide_struct Try.underlying34 hv
  obtain ⟨l⟩ := cs
  match l, hsz.trans cells_sg with
  | [c0, c1, c2, c3, c4, c5, c6, c7], _ =>
    obtain ⟨fuel, hf⟩ := h
    simp only [Value.cells] at hf
    obtain ⟨y0, y1, y2, y3, n, hx, -, h0, h1, h2, h3⟩ := trod_struct4 Try.underlying34 hf
    rw [cells_fr] at h0 h1 h2 h3
    obtain ⟨ax, ay, rfl, rfl, e0, -, -, k0⟩ := pt_cells h0
    obtain ⟨bx, by_, rfl, rfl, e1, -, -, k1⟩ := pt_cells h1
    obtain ⟨cx, cy, rfl, rfl, e2, -, -, k2⟩ := pt_cells h2
    obtain ⟨dx, dy, rfl, rfl, e3, -, -, k3⟩ := pt_cells h3
    have hp : p = [] := by
      have := congrArg Prod.snd hx
      simp only [e0, e1, e2, e3] at this
      simpa using this
    refine ⟨ax, ay, bx, by_, cx, cy, dx, dy, rfl, hp, fun W' base sp held => ⟨3, ?_⟩⟩
    rw [hx]
    have := trod_struct4_mk (enc := enc) (w := W') (base := base) (spare := sp) (held := held) (n := 2) (cs := [.int .i64 ax, .int .i64 ay, .int .i64 bx, .int .i64 by_, .int .i64 cx, .int .i64 cy, .int .i64 dx, .int .i64 dy]) (y0 := y0) (y1 := y1) (y2 := y2) (y3 := y3) Try.underlying34 (by rw [cells_sg]; rfl)
      (by rw [cells_fr]; exact k0 W' base sp held) (by rw [cells_fr]; exact k1 W' base sp held) (by rw [cells_fr]; exact k2 W' base sp held) (by rw [cells_fr]; exact k3 W' base sp held)
    simpa [Value.cells] using this
end
end Go.Proofs.Ytpdiojndfckmfaa
