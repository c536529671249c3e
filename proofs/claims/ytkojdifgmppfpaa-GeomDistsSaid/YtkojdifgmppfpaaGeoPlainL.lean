/- The reference's distance is the program's: gcd's and the long division. Plain laws. -/
import Derived.Test.YtkojdifgmppfpaaGeoPlainF
namespace Go.Proofs.Ytkojdifgmppfpaa.Geo
set_option linter.unusedVariables false
theorem gcd_split (c n : Nat) (hn : 0 < n) : Nat.gcd (c * c) n = Nat.gcd c n * Nat.gcd c (n / Nat.gcd c n) := by
  have hg : 0 < Nat.gcd c n := Nat.gcd_pos_of_pos_right _ hn
  have hco := Nat.coprime_div_gcd_div_gcd hg
  have hc : Nat.gcd c n * (c / Nat.gcd c n) = c := Nat.mul_div_cancel' (Nat.gcd_dvd_left _ _)
  have hnn : Nat.gcd c n * (n / Nat.gcd c n) = n := Nat.mul_div_cancel' (Nat.gcd_dvd_right _ _)
  generalize Nat.gcd c n = g at *
  generalize hx : c / g = x at *
  generalize hy : n / g = y at *
  have e : c * c = g * (x * c) := by rw [← Nat.mul_assoc, hc]
  rw [e]
  conv => lhs; rw [← hnn]
  rw [Nat.gcd_mul_left, hco.gcd_mul_left_cancel]
theorem dG_eq (T L : Nat) : dG T L = Nat.gcd T L := by
  unfold dG; rw [Nat.gcd_comm T L, Nat.gcd_rec L T]
theorem dN_eq (T L : Nat) (hL : 0 < L) : dN T L = T / Nat.gcd T L := by
  have e := dG_eq T L
  have hg : 0 < Nat.gcd T L := Nat.gcd_pos_of_pos_right _ hL
  have d1 : Nat.gcd T L ∣ L := Nat.gcd_dvd_right _ _
  have d2 : Nat.gcd T L ∣ T % L := by rw [← e]; exact Nat.gcd_dvd_left _ _
  unfold dN; rw [e]
  have h := Nat.div_add_mod T L
  generalize Nat.gcd T L = g at *
  generalize hw : T / L = W at *
  generalize hr : T % L = r at *
  obtain ⟨a, rfl⟩ := d1
  obtain ⟨b, rfl⟩ := d2
  rw [Nat.mul_div_cancel_left _ hg, Nat.mul_div_cancel_left _ hg, ← h, Nat.mul_assoc, ← Nat.mul_add, Nat.mul_div_cancel_left _ hg, Nat.mul_comm]
/-- what the reference returns -/
def rgN (c n : Nat) : Int := if 9223372036854775807 / (c / Nat.gcd c (n / Nat.gcd c n)) < c / Nat.gcd c n then ((c * c / n : Nat) : Int) else ((c / Nat.gcd c n * (c / Nat.gcd c (n / Nat.gcd c n)) : Nat) : Int)
def rgD (c n : Nat) : Int := if 9223372036854775807 / (c / Nat.gcd c (n / Nat.gcd c n)) < c / Nat.gcd c n then 1 else ((n / Nat.gcd c n / Nat.gcd c (n / Nat.gcd c n) : Nat) : Int)
theorem rg_fr (c n : Nat) (hc : 0 < c) (hn : 0 < n) : rgN c n = frN (c * c) n ∧ rgD c n = frD (c * c) n := by
  have hs := gcd_split c n hn
  have hg : 0 < Nat.gcd c n := Nat.gcd_pos_of_pos_right _ hn
  have hn1 : 0 < n / Nat.gcd c n := Nat.div_pos (Nat.gcd_le_right _ hn) hg
  have hh : 0 < Nat.gcd c (n / Nat.gcd c n) := Nat.gcd_pos_of_pos_right _ hn1
  have d1 : Nat.gcd c n ∣ c := Nat.gcd_dvd_left _ _
  have d2 : Nat.gcd c (n / Nat.gcd c n) ∣ c := Nat.gcd_dvd_left _ _
  have hy : 0 < c / Nat.gcd c (n / Nat.gcd c n) := Nat.div_pos (Nat.gcd_le_left _ hc) hh
  have eN : dN (c * c) n = c / Nat.gcd c n * (c / Nat.gcd c (n / Nat.gcd c n)) := by
    rw [dN_eq _ _ hn, hs, Nat.div_mul_div_comm d1 d2]
  have eD : n / dG (c * c) n = n / Nat.gcd c n / Nat.gcd c (n / Nat.gcd c n) := by
    rw [dG_eq, hs, Nat.div_div_eq_div_mul]
  unfold rgN rgD frN frD dW
  rw [eN, eD]
  generalize n / Nat.gcd c n / Nat.gcd c (n / Nat.gcd c n) = D at *
  generalize c / Nat.gcd c (n / Nat.gcd c n) = y at *
  generalize c / Nat.gcd c n = x at *
  have key : 9223372036854775807 / y < x ↔ ¬ x * y ≤ 9223372036854775807 := by
    rw [Nat.div_lt_iff_lt_mul hy]; omega
  by_cases hk : x * y ≤ 9223372036854775807
  · have hk' : ¬ 9223372036854775807 / y < x := fun h => key.mp h hk
    rw [if_neg hk', if_neg hk', if_pos hk, if_pos hk]; exact ⟨rfl, rfl⟩
  · rw [if_pos (key.mpr hk), if_pos (key.mpr hk), if_neg hk, if_neg hk]; exact ⟨rfl, rfl⟩
/-- a step of the long multiplication and division -/
def SI (c n m q r : Nat) : Prop := q = m * c / n ∧ r = m * c % n
theorem si_start (c n : Nat) : SI c n 0 0 0 := by unfold SI; simp
theorem si_zero {c n m q r : Nat} (hn : 0 < n) (h : SI c n m q r) : SI c n (2 * m) (2 * q + 2 * r / n) (2 * r % n) := by
  obtain ⟨rfl, rfl⟩ := h
  have h1 := Nat.div_add_mod (m * c) n
  have e : 2 * m * c = 2 * (m * c % n) + n * (2 * (m * c / n)) := by
    rw [Nat.mul_assoc, Nat.mul_left_comm n 2]; omega
  unfold SI
  rw [e, Nat.add_mul_div_left _ _ hn, Nat.add_mul_mod_self_left]
  exact ⟨by omega, rfl⟩
theorem si_one {c n m q r : Nat} (hn : 0 < n) (h : SI c n m q r) : SI c n (2 * m + 1) (2 * q + c / n + (2 * r + c % n) / n) ((2 * r + c % n) % n) := by
  obtain ⟨rfl, rfl⟩ := h
  have h1 := Nat.div_add_mod (m * c) n
  have h2 := Nat.div_add_mod c n
  have e : (2 * m + 1) * c = (2 * (m * c % n) + c % n) + n * (2 * (m * c / n) + c / n) := by
    rw [Nat.add_mul, Nat.one_mul, Nat.mul_assoc, Nat.mul_add n, Nat.mul_left_comm n 2]; omega
  unfold SI
  rw [e, Nat.add_mul_div_left _ _ hn, Nat.add_mul_mod_self_left]
  exact ⟨by omega, rfl⟩
theorem half_pow (c k : Nat) : c / 2 ^ k = 2 * (c / 2 ^ (k + 1)) + c / 2 ^ k % 2 := by
  rw [Nat.pow_succ, ← Nat.div_div_eq_div_mul]; omega
/-- what is known of the round at bit k -/
theorem si_bound {c n m q r : Nat} (hn : 0 < n) (h : SI c n m q r) (hm : m ≤ c) (hb : c * c / n < 35184372088832) : q < 35184372088832 ∧ r < n := by
  obtain ⟨rfl, rfl⟩ := h
  exact ⟨Nat.lt_of_le_of_lt (Nat.div_le_div_right (Nat.mul_le_mul_right _ hm)) hb, Nat.mod_lt _ hn⟩
end Go.Proofs.Ytkojdifgmppfpaa.Geo
