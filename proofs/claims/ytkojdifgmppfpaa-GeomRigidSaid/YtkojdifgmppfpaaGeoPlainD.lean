/- Plain words for layer geom: the square of the distance of a point from a segment. No program in sight. -/
import Derived.Test.YtkojdifgmppfpaaGeoPlainC
set_option linter.unusedVariables false
namespace Go.Proofs.Ytkojdifgmppfpaa.Geo
def sq (ax ay bx by_ : Int) : Int := (bx - ax) * (bx - ax) + (by_ - ay) * (by_ - ay)
def al (ax ay bx by_ px py : Int) : Int := (bx - ax) * (px - ax) + (by_ - ay) * (py - ay)
theorem lagrange (ax ay bx by_ px py : Int) : tw ax ay bx by_ px py * tw ax ay bx by_ px py + al ax ay bx by_ px py * al ax ay bx by_ px py = sq ax ay bx by_ * sq ax ay px py := by
  unfold tw al sq; grind
def dW (T L : Nat) : Nat := T / L
def dR (T L : Nat) : Nat := T % L
def dG (T L : Nat) : Nat := Nat.gcd (T % L) L
def dN (T L : Nat) : Nat := T / L * (L / dG T L) + T % L / dG T L
/-- the fraction of T / L -/
def frN (T L : Nat) : Int := if dN T L ≤ 9223372036854775807 then (dN T L : Int) else (dW T L : Int)
def frD (T L : Nat) : Int := if dN T L ≤ 9223372036854775807 then ((L / dG T L : Nat) : Int) else 1
def dsN (ax ay bx by_ px py : Int) : Int :=
  if nearL [(ax, ay), (bx, by_), (px, py)] = true then
    (if al ax ay bx by_ px py ≤ 0 then sq ax ay px py else if sq ax ay bx by_ ≤ al ax ay bx by_ px py then sq bx by_ px py
     else frN (tw ax ay bx by_ px py * tw ax ay bx by_ px py).toNat (sq ax ay bx by_).toNat)
  else 0
def dsD (ax ay bx by_ px py : Int) : Int :=
  if nearL [(ax, ay), (bx, by_), (px, py)] = true then
    (if al ax ay bx by_ px py ≤ 0 then 1 else if sq ax ay bx by_ ≤ al ax ay bx by_ px py then 1
     else frD (tw ax ay bx by_ px py * tw ax ay bx by_ px py).toNat (sq ax ay bx by_).toNat)
  else 0
theorem abs_sq_le {a : Int} (h : -4194304 ≤ a ∧ a ≤ 4194304) : 0 ≤ a * a ∧ a * a ≤ 17592186044416 := by
  have e1 : (a * a).natAbs ≤ 4194304 * 4194304 := by
    rw [Int.natAbs_mul]; exact Nat.mul_le_mul (by omega) (by omega)
  have := sq_nonneg a
  omega
theorem sq_le {ax ay bx by_ : Int} (ha : Nr ax ay) (hb : Nr bx by_) : 0 ≤ sq ax ay bx by_ ∧ sq ax ay bx by_ ≤ 35184372088832 := by
  unfold Nr at ha hb
  have h1 := abs_sq_le (a := bx - ax) (by omega)
  have h2 := abs_sq_le (a := by_ - ay) (by omega)
  unfold sq; omega
/-- the numbers of the inner case -/
theorem mid_nums {ax ay bx by_ px py : Int} (ha : Nr ax ay) (hb : Nr bx by_) (hp : Nr px py) (h1 : 0 < al ax ay bx by_ px py) (h2 : al ax ay bx by_ px py < sq ax ay bx by_) :
    ∃ T L : Nat, tw ax ay bx by_ px py * tw ax ay bx by_ px py = (T : Int) ∧ sq ax ay bx by_ = (L : Int) ∧ 0 < L ∧ L ≤ 35184372088832 ∧ T / L < 35184372088832 := by
  obtain ⟨l0, l1⟩ := sq_le ha hb
  obtain ⟨s0, s1⟩ := sq_le ha hp
  have hl := lagrange ax ay bx by_ px py
  have ht := sq_nonneg (tw ax ay bx by_ px py)
  have hq := Int.mul_pos h1 h1
  generalize tw ax ay bx by_ px py * tw ax ay bx by_ px py = T at *
  generalize al ax ay bx by_ px py * al ax ay bx by_ px py = Q at *
  generalize sq ax ay bx by_ = L at *
  generalize sq ax ay px py = S at *
  obtain ⟨T, rfl⟩ := Int.eq_ofNat_of_zero_le ht
  obtain ⟨L, rfl⟩ := Int.eq_ofNat_of_zero_le l0
  obtain ⟨S, rfl⟩ := Int.eq_ofNat_of_zero_le s0
  refine ⟨T, L, rfl, rfl, by omega, by omega, ?_⟩
  have h3 : T < S * L := by
    have : ((L * S : Nat) : Int) = (L : Int) * (S : Int) := Int.natCast_mul _ _
    rw [Nat.mul_comm]; omega
  have h4 : T / L < S := (Nat.div_lt_iff_lt_mul (by omega)).2 h3
  omega
theorem dG_pos {T L : Nat} (h : 0 < L) : 0 < dG T L := Nat.gcd_pos_of_pos_right _ h
theorem dG_le {T L : Nat} (h : 0 < L) : dG T L ≤ L := Nat.gcd_le_right _ h
end Go.Proofs.Ytkojdifgmppfpaa.Geo
