/- Plain words for layer geom: near points, areas, sides. No program in sight. -/
set_option linter.unusedVariables false
namespace Go.Proofs.Ytkojdifgmppfpaa.Geo
def nearP (x y : Int) : Bool := decide (-2097152 ≤ x) && decide (x ≤ 2097152) && decide (-2097152 ≤ y) && decide (y ≤ 2097152)
def nearL (l : List (Int × Int)) : Bool := l.all fun p => nearP p.1 p.2
theorem nearP_iff (x y : Int) : nearP x y = true ↔ (-2097152 ≤ x ∧ x ≤ 2097152 ∧ -2097152 ≤ y ∧ y ≤ 2097152) := by
  unfold nearP; simp [and_assoc]
theorem near_step {l : List (Int × Int)} {k : Nat} (h : k < l.length) (h0 : nearL (l.take k) = true) (h1 : nearP l[k].1 l[k].2 = true) : nearL (l.take (k + 1)) = true := by
  unfold nearL at *
  rw [List.take_succ_eq_append_getElem h, List.all_append, h0]
  simp [h1]
theorem near_fail {l : List (Int × Int)} {k : Nat} (h : k < l.length) (h1 : nearP l[k].1 l[k].2 = false) : nearL l = false := by
  unfold nearL
  rw [List.all_eq_false]
  exact ⟨l[k], List.getElem_mem h, by simp [h1]⟩
theorem nearP_cases (x y : Int) : (nearP x y = true ∧ -2097152 ≤ x ∧ x ≤ 2097152 ∧ -2097152 ≤ y ∧ y ≤ 2097152) ∨ (nearP x y = false ∧ (x < -2097152 ∨ (-2097152 ≤ x ∧ 2097152 < x) ∨ (-2097152 ≤ x ∧ x ≤ 2097152 ∧ y < -2097152) ∨ (-2097152 ≤ x ∧ x ≤ 2097152 ∧ -2097152 ≤ y ∧ 2097152 < y))) := by
  by_cases h : nearP x y = true
  · exact .inl ⟨h, (nearP_iff x y).1 h⟩
  · refine .inr ⟨by simpa using h, ?_⟩
    have : ¬ (-2097152 ≤ x ∧ x ≤ 2097152 ∧ -2097152 ≤ y ∧ y ≤ 2097152) := fun x' => h ((nearP_iff x y).2 x')
    omega
/-- twice the area -/
def tw (ax ay bx by_ cx cy : Int) : Int := (bx - ax) * (cy - ay) - (by_ - ay) * (cx - ax)
/-- the cross product and the scalar product of the vectors from a to b and from c to d -/
def cr (ax ay bx by_ cx cy dx dy : Int) : Int := (bx - ax) * (dy - cy) - (by_ - ay) * (dx - cx)
def dt (ax ay bx by_ cx cy dx dy : Int) : Int := (bx - ax) * (dx - cx) + (by_ - ay) * (dy - cy)
theorem tw_cr (ax ay bx by_ cx cy : Int) : cr ax ay bx by_ ax ay cx cy = tw ax ay bx by_ cx cy := rfl
/-- a near point -/
def Nr (x y : Int) : Prop := -2097152 ≤ x ∧ x ≤ 2097152 ∧ -2097152 ≤ y ∧ y ≤ 2097152
theorem near3_iff (ax ay bx by_ cx cy : Int) : nearL [(ax, ay), (bx, by_), (cx, cy)] = true ↔ Nr ax ay ∧ Nr bx by_ ∧ Nr cx cy := by
  unfold nearL; simp only [List.all_cons, List.all_nil, Bool.and_true, Bool.and_eq_true, nearP_iff]; unfold Nr; exact Iff.rfl
theorem near4_iff (ax ay bx by_ cx cy dx dy : Int) : nearL [(ax, ay), (bx, by_), (cx, cy), (dx, dy)] = true ↔ Nr ax ay ∧ Nr bx by_ ∧ Nr cx cy ∧ Nr dx dy := by
  unfold nearL; simp only [List.all_cons, List.all_nil, Bool.and_true, Bool.and_eq_true, nearP_iff]; unfold Nr; exact Iff.rfl
/-- what Twice, Side return -/
def twF (ax ay bx by_ cx cy : Int) : Int := if nearL [(ax, ay), (bx, by_), (cx, cy)] = true then tw ax ay bx by_ cx cy else 0
def sgn (n : Int) : Int := if 0 < n then 1 else if n < 0 then -1 else 0
end Go.Proofs.Ytkojdifgmppfpaa.Geo
