/- Plain words for layer ink: what makes an operation valid. No program in sight. -/
import Derived.Test.YtjclioakdmilmaaInkPlain
set_option linter.unusedVariables false
namespace Go.Proofs.Ytjclioakdmilmaa.Ink
open Num
/-- four numbers are zero -/
def z4 (a b c d : Int) : Bool := (decide (a = 0) && decide (b = 0)) && (decide (c = 0) && decide (d = 0))
theorem z4_cases (a b c d : Int) : (z4 a b c d = true ∧ a = 0 ∧ b = 0 ∧ c = 0 ∧ d = 0) ∨ (z4 a b c d = false ∧ (a ≠ 0 ∨ (a = 0 ∧ b ≠ 0) ∨ (a = 0 ∧ b = 0 ∧ c ≠ 0) ∨ (a = 0 ∧ b = 0 ∧ c = 0 ∧ d ≠ 0))) := by
  unfold z4
  by_cases h1 : a = 0 <;> by_cases h2 : b = 0 <;> by_cases h3 : c = 0 <;> by_cases h4 : d = 0 <;> simp [h1, h2, h3, h4]
/-- the fields that a kind does not use are zero -/
def bareB (k : Int) (bz : Bool) (n : Nat) (iz : Bool) : Bool := if k = 1 then decide (n = 0) else if k = 2 then bz && decide (0 < n) else decide (n = 0) && iz
/-- an amount of ink -/
def okI (a : Int) : Bool := decide (0 ≤ a) && decide (a ≤ 100)
def ok4 (a b c d : Int) : Bool := (okI a && okI b) && (okI c && okI d)
/-- the error of an operation -/
def ckE (k x0 y0 x1 y1 : Int) (l : List (Int × Int)) (a b c d : Int) : Int :=
  if k < 1 ∨ 3 < k then 9
  else if bareB k (z4 x0 y0 x1 y1) l.length (z4 a b c d) = false then 1
  else if 4096 < l.length then 3
  else if ok4 a b c d = false then 2
  else if ((nr x0 y0 && nr x1 y1) && l.all fun p => nr p.1 p.2) = false then 2 else 0
end Go.Proofs.Ytjclioakdmilmaa.Ink
