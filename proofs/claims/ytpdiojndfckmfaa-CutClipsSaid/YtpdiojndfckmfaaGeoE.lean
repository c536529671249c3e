/- The contracts of geom.lower, Less and of the reference's quarter, Less. -/
import Derived.Test.YtpdiojndfckmfaaGeoC
import Derived.Test.YtpdiojndfckmfaaCutBase
namespace Go.Proofs.Ytpdiojndfckmfaa
open Go.RowKit
open Num Geo
set_option linter.unusedVariables false
theorem eqP_true {ax ay bx by_ : Int} (h : eqP ax ay bx by_ = true) : ax = bx ∧ ay = by_ := by unfold eqP at h; simpa using h
theorem eqP_false {ax ay bx by_ : Int} (h : eqP ax ay bx by_ = false) : ¬ ax = bx ∨ (ax = bx ∧ ¬ ay = by_) := by
  unfold eqP at h; simp at h
  by_cases e : ax = bx
  · exact .inr ⟨e, h e⟩
  · exact .inl e
theorem eq_test {ax ay bx by_ : Int} (h : eqP ax ay bx by_ = false) : (ax == bx && ay == by_) = false := by
  rcases eqP_false h with h | ⟨h, h'⟩ <;> simp [*]
end Go.Proofs.Ytpdiojndfckmfaa
