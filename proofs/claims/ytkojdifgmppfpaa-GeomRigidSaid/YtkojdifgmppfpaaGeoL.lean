/- The contract of geom.Dist, the inner case and the whole. -/
import Derived.Test.YtkojdifgmppfpaaGeoK
namespace Go.Proofs.Ytkojdifgmppfpaa
open Go.RowKit
open Num Geo
set_option linter.unusedVariables false
theorem md_mid {t : Int} {T L : Nat} (ht : t * t = (T : Int)) (hL : 0 < L) (hb : T / L < 35184372088832) : mdV t t L = ((T / L : Nat) : Int) ∧ mdE t t L = 0 := by
  have hf : fl (t * t) (L : Int) = ((T / L : Nat) : Int) := by
    unfold fl; rw [if_pos (by omega), ht]; rfl
  have hE : mdE t t L = 0 := by
    rw [mdE_eq, hf, if_neg (by omega)]
    generalize T / L = W at *
    rw [if_pos (by omega)]
  exact ⟨by unfold mdV; rw [if_pos hE, hf], hE⟩
theorem rest_in {A B r : Int} (h : A - B = r) (h0 : 0 ≤ r) (h1 : r ≤ 35184372088832) : wrap64 (wrap64 A - wrap64 B) = r := by unfold wrap64; omega
theorem gc_mid (r L : Nat) (hL : 0 < L) (hb : L ≤ 35184372088832) : gcV (r : Int) (L : Int) = (Nat.gcd r L : Int) := by
  have := Nat.gcd_le_right r hL
  unfold gcV
  have e1 : ((r : Int)).natAbs = r := by omega
  have e2 : ((L : Int)).natAbs = L := by omega
  rw [e1, e2]
  generalize Nat.gcd r L = g at *
  rw [if_pos (by omega)]
theorem quo_mid (a g : Nat) (h : a ≤ 35184372088832) : wrap64 ((a : Int) / (g : Int)) = ((a / g : Nat) : Int) := by
  have h1 : (a : Int) / (g : Int) = ((a / g : Nat) : Int) := rfl
  have h2 := Nat.div_le_self a g
  rw [h1]
  generalize a / g = q at *
  unfold wrap64; omega
theorem words {P s : Nat} : (P + s) / 18446744073709551616 = P / 18446744073709551616 + (P % 18446744073709551616 + s) / 18446744073709551616 ∧ (P + s) % 18446744073709551616 = (P % 18446744073709551616 + s) % 18446744073709551616 := by omega
theorem hi_small {W Lg : Nat} (h1 : W < 35184372088832) (h2 : Lg ≤ 35184372088832) : hi64 W Lg < 18446744073709551615 := by
  have h3 : W * Lg ≤ 35184372088832 * 35184372088832 := Nat.mul_le_mul (Nat.le_of_lt h1) h2
  unfold hi64
  omega
theorem carry_le {lo rg : Nat} (h1 : lo < 18446744073709551616) (h2 : rg ≤ 35184372088832) : (lo + rg) / 18446744073709551616 ≤ 1 := by omega
theorem hc_in {hi ca hc : Nat} (h : hi < 18446744073709551615) (h2 : ca ≤ 1) (e : hi + ca = hc) : IntKind.u64.wrap ((hi : Int) + (ca : Int)) = (hc : Int) := by
  rw [show (hi : Int) + (ca : Int) = (hc : Int) by omega]; exact m64wrap _ (by omega)
/-- the words of T / L's reduced numerator -/
theorem num_words (W Lg rg : Nat) (h1 : W < 35184372088832) (h2 : Lg ≤ 35184372088832) (h3 : rg ≤ 35184372088832) : ∃ hi lo su ca hc : Nat, hi64 W Lg = hi ∧ lo64 W Lg = lo ∧
    (∀ w : World, (callFunc 45 #[.int .u64 lo, .int .u64 rg, .int .u64 0]).run Try.prog w = .ok (.value (.tuple #[.int .u64 (su : Int), .int .u64 (ca : Int)])) w) ∧
    IntKind.u64.wrap ((hi : Int) + (ca : Int)) = (hc : Int) ∧ (W * Lg + rg) / 18446744073709551616 = hc ∧ (W * Lg + rg) % 18446744073709551616 = su := by
  have hlo : lo64 W Lg < 18446744073709551616 := Nat.mod_lt _ (by omega)
  refine ⟨_, _, _, _, _, rfl, rfl, fun w => add64_run (lo64 W Lg) rg w, hc_in (hi_small h1 h2) (carry_le hlo h3) rfl, ?_, ?_⟩
  · exact (words (P := W * Lg) (s := rg)).1
  · exact (words (P := W * Lg) (s := rg)).2
/-- the numbers that the inner case reckons -/
theorem mid_pack {t : Int} {T L : Nat} (eT : t * t = (T : Int)) (hL0 : 0 < L) (hL1 : L ≤ 35184372088832) (hW : T / L < 35184372088832) :
    ∃ W r g Lg rg : Nat, mdV t t L = (W : Int) ∧ mdE t t L = 0 ∧ wrap64 (wrap64 (t * t) - wrap64 ((W : Int) * (L : Int))) = (r : Int) ∧ gcV (r : Int) (L : Int) = (g : Int) ∧ wrap64 ((L : Int) / (g : Int)) = (Lg : Int) ∧ wrap64 ((r : Int) / (g : Int)) = (rg : Int) ∧
      W < 35184372088832 ∧ r ≤ 35184372088832 ∧ 1 ≤ g ∧ Lg ≤ 35184372088832 ∧ rg ≤ 35184372088832 ∧ dW T L = W ∧ dN T L = W * Lg + rg ∧ L / dG T L = Lg := by
  have hdm := Nat.div_add_mod T L
  have hr := Nat.mod_lt T hL0
  refine ⟨T / L, T % L, dG T L, L / dG T L, T % L / dG T L, (md_mid eT hL0 hW).1, (md_mid eT hL0 hW).2, ?_, ?_, ?_, ?_, hW, by omega, dG_pos hL0, ?_, ?_, rfl, rfl, rfl⟩
  · refine rest_in ?_ (by omega) (by omega)
    rw [eT, ← Int.natCast_mul, Nat.mul_comm (T / L) L]
    generalize L * (T / L) = P at *
    omega
  · exact gc_mid (T % L) L hL0 hL1
  · exact quo_mid L (dG T L) hL1
  · exact quo_mid (T % L) (dG T L) (by omega)
  · exact Nat.le_trans (Nat.div_le_self _ _) hL1
  · exact Nat.le_trans (Nat.div_le_self _ _) (by omega)
end Go.Proofs.Ytkojdifgmppfpaa
