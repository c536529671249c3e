/- Plain arithmetic of layer num: a product divided, rounded down. -/
import Derived.Test.YtjclioakdmilmaaNumPlainC
import Derived.Test.YtjclioakdmilmaaNumPlainH
set_option linter.unusedVariables false
namespace Go.Proofs.Ytjclioakdmilmaa.Num
def ngm (a b c : Int) : Bool := ((decide (a < 0)) != (decide (b < 0))) != (decide (c < 0))
def mdN (a b c : Int) : Nat := if ngm a b c = true ∧ 0 < a.natAbs * b.natAbs % c.natAbs then a.natAbs * b.natAbs / c.natAbs + 1 else a.natAbs * b.natAbs / c.natAbs
def mdE (a b c : Int) : Int := if c = 0 then 21 else if sOk (ngm a b c) (mdN a b c) = true then 0 else 15
def mdV (a b c : Int) : Int := if mdE a b c = 0 then fl (a * b) c else 0
theorem ngm_mns {a b c : Int} (ha : a ≠ 0) (hb : b ≠ 0) (hc : c ≠ 0) : mns (a * b) c = ngm a b c := by
  unfold mns ngm
  rcases Int.lt_or_gt_of_ne ha with h1 | h1 <;> rcases Int.lt_or_gt_of_ne hb with h2 | h2 <;> rcases Int.lt_or_gt_of_ne hc with h3 | h3
  all_goals
    have e : (0 < a * b ∧ ¬ a * b < 0) ∨ (a * b < 0 ∧ ¬ 0 < a * b) := by
      first
        | (left; have := Int.mul_pos_of_neg_of_neg h1 h2; omega)
        | (left; have := Int.mul_pos h1 h2; omega)
        | (right; have := Int.mul_neg_of_neg_of_pos h1 h2; omega)
        | (right; have := Int.mul_neg_of_pos_of_neg h1 h2; omega)
    rcases e with ⟨e1, e2⟩ | ⟨e1, e2⟩
    all_goals
      first
        | (exfalso; first | (have := Int.mul_pos_of_neg_of_neg h1 h2; omega) | (have := Int.mul_pos h1 h2; omega) | (have := Int.mul_neg_of_neg_of_pos h1 h2; omega) | (have := Int.mul_neg_of_pos_of_neg h1 h2; omega))
        | (have d1 : decide (a < 0) = true := by simpa using h1
           have d2 : decide (b < 0) = true := by simpa using h2
           have d3 : (c < 0 ∧ decide (c < 0) = true ∧ decide (0 < c) = false) ∨ (0 < c ∧ decide (c < 0) = false ∧ decide (0 < c) = true) := by
             rcases Int.lt_or_gt_of_ne hc with h | h
             · exact .inl ⟨h, by simpa using h, by simp; omega⟩
             · exact .inr ⟨h, by simp; omega, by simpa using h⟩
           rcases d3 with ⟨-, d3, d4⟩ | ⟨-, d3, d4⟩ <;> simp [e1, e2, d1, d2, d3, d4])
        | (have d1 : decide (a < 0) = true := by simpa using h1
           have d2 : decide (b < 0) = false := by simp; omega
           have d3 : (c < 0 ∧ decide (c < 0) = true ∧ decide (0 < c) = false) ∨ (0 < c ∧ decide (c < 0) = false ∧ decide (0 < c) = true) := by
             rcases Int.lt_or_gt_of_ne hc with h | h
             · exact .inl ⟨h, by simpa using h, by simp; omega⟩
             · exact .inr ⟨h, by simp; omega, by simpa using h⟩
           rcases d3 with ⟨-, d3, d4⟩ | ⟨-, d3, d4⟩ <;> simp [e1, e2, d1, d2, d3, d4])
        | (have d1 : decide (a < 0) = false := by simp; omega
           have d2 : decide (b < 0) = true := by simpa using h2
           have d3 : (c < 0 ∧ decide (c < 0) = true ∧ decide (0 < c) = false) ∨ (0 < c ∧ decide (c < 0) = false ∧ decide (0 < c) = true) := by
             rcases Int.lt_or_gt_of_ne hc with h | h
             · exact .inl ⟨h, by simpa using h, by simp; omega⟩
             · exact .inr ⟨h, by simp; omega, by simpa using h⟩
           rcases d3 with ⟨-, d3, d4⟩ | ⟨-, d3, d4⟩ <;> simp [e1, e2, d1, d2, d3, d4])
        | (have d1 : decide (a < 0) = false := by simp; omega
           have d2 : decide (b < 0) = false := by simp; omega
           have d3 : (c < 0 ∧ decide (c < 0) = true ∧ decide (0 < c) = false) ∨ (0 < c ∧ decide (c < 0) = false ∧ decide (0 < c) = true) := by
             rcases Int.lt_or_gt_of_ne hc with h | h
             · exact .inl ⟨h, by simpa using h, by simp; omega⟩
             · exact .inr ⟨h, by simp; omega, by simpa using h⟩
           rcases d3 with ⟨-, d3, d4⟩ | ⟨-, d3, d4⟩ <;> simp [e1, e2, d1, d2, d3, d4])
theorem fl_zero (c : Int) (hc : c ≠ 0) : fl 0 c = 0 := by
  rcases Int.lt_or_gt_of_ne hc with h | h
  · exact fl_neg h (by simp) (by simp; omega)
  · exact fl_pos h (by simp) (by simp; omega)
theorem fl_md (a b c : Int) (hc : c ≠ 0) : fl (a * b) c = if ngm a b c = true then -(mdN a b c : Int) else mdN a b c := by
  by_cases ha : a = 0
  · subst ha
    have e : mdN 0 b c = 0 := by unfold mdN; simp
    rw [Int.zero_mul, fl_zero c hc, e]; simp
  · by_cases hb : b = 0
    · subst hb
      have e : mdN a 0 c = 0 := by unfold mdN; simp
      rw [Int.mul_zero, fl_zero c hc, e]; simp
    · have e : mdN a b c = fQ (a * b) c := by unfold mdN fQ; rw [ngm_mns ha hb hc, Int.natAbs_mul]
      rw [fl_of_fQ _ _ hc, e, ngm_mns ha hb hc]
theorem md_ok {a b c : Int} (hc : c ≠ 0) : sOk (ngm a b c) (mdN a b c) = true ↔ I64 (fl (a * b) c) := by
  rw [fl_md a b c hc]
  unfold sOk I64
  cases ngm a b c <;> simp <;> omega
theorem md_val {a b c : Int} (hc : c ≠ 0) (h : sOk (ngm a b c) (mdN a b c) = true) : sVal (ngm a b c) (mdN a b c) = fl (a * b) c := by
  rw [fl_md a b c hc]; unfold sVal; rw [if_pos h]
theorem mdE_eq (a b c : Int) : mdE a b c = if c = 0 then 21 else if -9223372036854775808 ≤ fl (a * b) c ∧ fl (a * b) c ≤ 9223372036854775807 then 0 else 15 := by
  unfold mdE
  by_cases hc : c = 0
  · rw [if_pos hc, if_pos hc]
  · rw [if_neg hc, if_neg hc]
    have : _ ↔ (-9223372036854775808 ≤ fl (a * b) c ∧ fl (a * b) c ≤ 9223372036854775807) := md_ok (a := a) (b := b) hc
    by_cases h : sOk (ngm a b c) (mdN a b c) = true
    · rw [if_pos h, if_pos (this.1 h)]
    · rw [if_neg h, if_neg (fun x => h (this.2 x))]
theorem md_comm (a b c : Int) : mdE a b c = mdE b a c ∧ mdV a b c = mdV b a c := by
  have e : mdE a b c = mdE b a c := by rw [mdE_eq, mdE_eq, Int.mul_comm a b]
  exact ⟨e, by unfold mdV; rw [e, Int.mul_comm a b]⟩
theorem fl_one (a b : Int) (hb : b ≠ 0) : fl (a * b) b = a := by
  rcases Int.lt_or_gt_of_ne hb with h | h
  · exact fl_neg h (by rw [Int.mul_comm]; omega) (by rw [Int.mul_comm]; omega)
  · exact fl_pos h (by rw [Int.mul_comm]; omega) (by rw [Int.mul_comm]; omega)
theorem md_one (a b : Int) (ha : I64 a) : mdE a 1 b = chk a b ∧ mdV a 1 b = if chk a b = 0 then fl a b else 0 := by
  have e : mdE a 1 b = chk a b := by
    rw [mdE_eq, Int.mul_one]
    unfold chk
    by_cases hb : b = 0
    · rw [if_pos hb, if_pos hb]
    · rw [if_neg hb, if_neg hb]
      by_cases ho : a = -9223372036854775808 ∧ b = -1
      · rw [if_pos ho, if_neg]
        obtain ⟨rfl, rfl⟩ := ho
        decide
      · have h := fl_range a b ha hb ho
        unfold I64 at h
        rw [if_neg ho, if_pos h]
  refine ⟨e, ?_⟩
  unfold mdV; rw [e, Int.mul_one]
theorem md_same (a b : Int) (ha : I64 a) (hb : b ≠ 0) : mdE a b b = 0 ∧ mdV a b b = a := by
  have e : mdE a b b = 0 := by unfold I64 at ha; rw [mdE_eq, fl_one a b hb, if_neg hb, if_pos ha]
  exact ⟨e, by unfold mdV; rw [e, if_pos rfl, fl_one a b hb]⟩
theorem md_zero (a b : Int) : mdE a b 0 = 21 ∧ mdV a b 0 = 0 := by
  have e : mdE a b 0 = 21 := by unfold mdE; rw [if_pos rfl]
  exact ⟨e, by unfold mdV; rw [e]; rfl⟩
theorem mdN_big {a b c : Int} (hc : c ≠ 0) (h : c.natAbs ≤ a.natAbs * b.natAbs / 18446744073709551616) : mdE a b c = 15 ∧ mdV a b c = 0 := by
  have hq : 18446744073709551616 ≤ a.natAbs * b.natAbs / c.natAbs := by
    rw [Nat.le_div_iff_mul_le (by omega)]
    have := Nat.div_add_mod (a.natAbs * b.natAbs) 18446744073709551616
    omega
  have hn : 18446744073709551616 ≤ mdN a b c := by unfold mdN; split <;> omega
  have e : mdE a b c = 15 := by
    unfold mdE; rw [if_neg hc, if_neg]
    unfold sOk; split <;> simp <;> omega
  exact ⟨e, by unfold mdV; rw [e]; rfl⟩
end Go.Proofs.Ytjclioakdmilmaa.Num
