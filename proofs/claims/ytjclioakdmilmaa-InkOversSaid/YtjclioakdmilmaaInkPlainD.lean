/- Plain words for layer ink: what makes four plates valid. No program in sight. -/
import Derived.Test.YtjclioakdmilmaaInkPlainC
set_option linter.unusedVariables false
namespace Go.Proofs.Ytjclioakdmilmaa.Ink
open Num
def all4 (f : Nat → Bool) : Bool := (f 0 && f 1) && (f 2 && f 3)
theorem all4_true {f : Nat → Bool} (h : ∀ i, i < 4 → f i = true) : all4 f = true := by unfold all4; rw [h 0 (by omega), h 1 (by omega), h 2 (by omega), h 3 (by omega)]; rfl
theorem all4_false {f : Nat → Bool} {i : Nat} (hi : i < 4) (h : f i = false) : all4 f = false := by
  unfold all4
  obtain rfl | rfl | rfl | rfl : i = 0 ∨ i = 1 ∨ i = 2 ∨ i = 3 := by omega
  all_goals rw [h]; simp
theorem all4_iff {f : Nat → Bool} : all4 f = true ↔ ∀ i, i < 4 → f i = true := by
  constructor
  · intro h i hi
    cases e : f i
    · rw [all4_false hi e] at h; cases h
    · rfl
  · exact all4_true
/-- a number of columns or rows -/
def sideB (n : Int) : Bool := decide (1 ≤ n) && decide (n ≤ 256)
theorem sideB_iff (n : Int) : sideB n = true ↔ 1 ≤ n ∧ n ≤ 256 := by unfold sideB; simp
/-- a plate has the first one's size, and all its cells -/
def armP (ws hs : Nat → Int) (vs : Nat → List Int) (i : Nat) : Bool := (decide (ws i = ws 0) && decide (hs i = hs 0)) && decide (ws i * hs i = ((vs i).length : Int))
def okL (l : List Int) : Bool := l.all okI
/-- the error of four plates -/
def errP (ws hs : Nat → Int) (vs : Nat → List Int) : Int :=
  if all4 (armP ws hs vs) = false then 1
  else if (sideB (ws 0) && sideB (hs 0)) = false then 2
  else if (all4 fun i => okL (vs i)) = false then 2 else 0
theorem fl_1 (x : Int) : fl x 1 = x := fl_pos (by omega) (by omega) (by omega)
theorem md_prod (a b : Int) : mdE a b 1 = (if -9223372036854775808 ≤ a * b ∧ a * b ≤ 9223372036854775807 then 0 else 15) ∧ mdV a b 1 = (if -9223372036854775808 ≤ a * b ∧ a * b ≤ 9223372036854775807 then a * b else 0) := by
  have e : mdE a b 1 = (if -9223372036854775808 ≤ a * b ∧ a * b ≤ 9223372036854775807 then 0 else 15) := by rw [mdE_eq, fl_1, if_neg (by omega)]
  refine ⟨e, ?_⟩
  unfold mdV
  rw [e, fl_1]
  split <;> simp
theorem okL_true {l : List Int} (h : ∀ k (hk : k < l.length), okI l[k] = true) : okL l = true := by
  unfold okL; rw [List.all_eq_true]; intro x hx; obtain ⟨k, hk, rfl⟩ := List.getElem_of_mem hx; exact h k hk
theorem okL_false {l : List Int} {k : Nat} (hk : k < l.length) (h : okI l[k] = false) : okL l = false := by
  unfold okL; rw [List.all_eq_false]; exact ⟨l[k], List.getElem_mem hk, by simp [h]⟩
end Go.Proofs.Ytjclioakdmilmaa.Ink
