/- The capacity of a grid's list of heights; a point as an argument. -/
import Derived.Test.YthgdmcjahldihaaOpenB
namespace Go.Proofs.Ythgdmcjahldihaa
open Go.ChangeShapes Go.WideShapes Go.ChangeAt Go.RowKit Go.Joins Go.Deep
set_option linter.unusedVariables false
section
variable {H : Type} {enc : TypeId × Value → H}
theorem hgt_cap {W : World} {x y Wd Ht S : Int} {A : Option Addr} {n c : Nat} {d : DataW H} {p : List MemPlace} (h : DataW.Trod enc Try.prog W 0 (fun _ => true) true 26 (hgt x y Wd Ht S A n c) d p) : n ≤ c ∧ c ≤ maxLen := by
  obtain ⟨fuel, hf⟩ := h
  obtain ⟨xs, m, _, hx, _, hlen, hg⟩ := DataW.trod_struct Try.underlying26 hf
  match xs, hlen with
  | [y0, y1, y2, y3, y4], _ =>
    have h4 : DataW.trod enc Try.prog W 0 (fun _ => true) true m 24 [.slice A n c] = some y4 := by simpa [Value.cells, cells_s, cells_p, cells_i] using hg 4 _ rfl
    rcases open_ints Try.underlying24 Try.underlying3 cells_i h4 with ⟨hc, -⟩ | ⟨a, len, cap, zs, hc, hb, hl, hm, -⟩
    · simp at hc
      obtain ⟨-, rfl, rfl⟩ := hc
      exact ⟨Nat.le_refl _, by simp⟩
    · simp at hc
      obtain ⟨-, rfl, rfl⟩ := hc
      exact ⟨by omega, by omega⟩
theorem open_pt {W : World} {r : Reach} {b0 : Nat} {v : Value} {d : DataW H} {p : List MemPlace} (hv : Value.okWide Try.prog W r b0 23 v) (h : DataW.Trod enc Try.prog W 0 (fun _ => true) true 23 v d p) :
    ∃ a b : Int, v = .agg #[.int .i64 a, .int .i64 b] ∧ d = .agg [.lit (.int .i64 a), .lit (.int .i64 b)] ∧ p = [] ∧ (Lit.int .i64 a).wf = true ∧ (Lit.int .i64 b).wf = true ∧
      ∀ (W' : World) (base : Nat) (sp : Nat → Bool) (held : Bool), DataW.Trod enc Try.prog W' base sp held 23 v d p := by
  obtain ⟨cs, rfl, hsz⟩ := okWide_struct Try.underlying23 hv
  obtain ⟨l⟩ := cs
  match l, hsz.trans cells_p with
  | [c0, c1], _ =>
    obtain ⟨fuel, hf⟩ := h
    obtain ⟨a, b, rfl, rfl, hx, wa, wb⟩ := open_point (by simpa [Value.cells] using hf)
    simp only [Prod.mk.injEq] at hx
    obtain ⟨rfl, rfl⟩ := hx
    exact ⟨a, b, rfl, rfl, rfl, wa, wb, fun W' base sp held => ⟨2, by simpa [Value.cells] using shut_point W' base sp held 0 wa wb⟩⟩
end
end Go.Proofs.Ythgdmcjahldihaa
