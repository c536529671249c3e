/- Distances: zero on the segment alone, never negative, symmetric. Plain laws. -/
import Derived.Test.YtkojdifgmppfpaaGeoPlainB
import Derived.Test.YtkojdifgmppfpaaGeoPlainD
namespace Go.Proofs.Ytkojdifgmppfpaa.Geo
theorem sq_nn (ax ay bx by_ : Int) : 0 ≤ sq ax ay bx by_ := by
  unfold sq; have := sq_nonneg (bx - ax); have := sq_nonneg (by_ - ay); omega
theorem sq_zero {ax ay bx by_ : Int} (h : sq ax ay bx by_ = 0) : ax = bx ∧ ay = by_ := by
  unfold sq at h
  have h1 := sq_nonneg (bx - ax)
  have h2 := sq_nonneg (by_ - ay)
  have e1 : (bx - ax) * (bx - ax) = 0 := by omega
  have e2 : (by_ - ay) * (by_ - ay) = 0 := by omega
  rcases Int.mul_eq_zero.1 e1 with a | a <;> rcases Int.mul_eq_zero.1 e2 with b | b <;> omega
theorem sq_sym (ax ay bx by_ : Int) : sq bx by_ ax ay = sq ax ay bx by_ := by unfold sq; grind
theorem al_sym (ax ay bx by_ px py : Int) : al bx by_ ax ay px py = sq ax ay bx by_ - al ax ay bx by_ px py := by unfold sq al; grind
theorem sq_far (ax ay bx by_ px py : Int) : sq bx by_ px py = sq ax ay px py - 2 * al ax ay bx by_ px py + sq ax ay bx by_ := by unfold sq al; grind
theorem tw_sym (ax ay bx by_ px py : Int) : tw bx by_ ax ay px py * tw bx by_ ax ay px py = tw ax ay bx by_ px py * tw ax ay bx by_ px py := by unfold tw; grind
theorem inb_al {ax ay bx by_ px py : Int} (h : tw ax ay bx by_ px py = 0) : inb ax ay bx by_ px py = true ↔ sq ax ay px py ≤ al ax ay bx by_ px py := by
  rw [← on_dot h]
  have : dt ax ay px py bx by_ px py = sq ax ay px py - al ax ay bx by_ px py := by unfold dt sq al; grind
  rw [this]; omega
theorem frD_pos (T L : Nat) (h : 0 < L) : 1 ≤ frD T L := by
  have := Nat.div_pos (dG_le (T := T) h) (dG_pos h)
  unfold frD; split <;> omega
theorem frN_nn (T L : Nat) : 0 ≤ frN T L := by unfold frN; split <;> omega
theorem frN_zero {T L : Nat} (h : 0 < L) (hL : L ≤ 35184372088832) : frN T L = 0 ↔ T = 0 := by
  have hg := dG_pos (T := T) h
  have hq := Nat.div_pos (dG_le (T := T) h) (dG_pos h)
  have hd : dG T L ∣ T % L := Nat.gcd_dvd_left _ _
  have hm := Nat.mod_lt T h
  constructor
  · intro hz
    have hW : T / L = 0 := by
      unfold frN at hz
      split at hz
      · unfold dN at hz
        have hz' : T / L * (L / dG T L) + T % L / dG T L = 0 := by exact_mod_cast hz
        have h0 : T / L * (L / dG T L) = 0 := (Nat.add_eq_zero_iff.mp hz').1
        rcases Nat.mul_eq_zero.1 h0 with a | a
        · exact a
        · omega
      · unfold dW at hz; omega
    have h1 : T % L / dG T L = 0 := by
      have h2 : dN T L = T % L / dG T L := by unfold dN; rw [hW, Nat.zero_mul, Nat.zero_add]
      have hle := Nat.div_le_self (T % L) (dG T L)
      unfold frN at hz
      generalize T % L / dG T L = z at *
      split at hz <;> omega
    have h3 : T % L = 0 := by
      have := Nat.div_mul_cancel hd; rw [h1] at this; omega
    have := Nat.div_add_mod T L
    rw [hW, h3] at this; omega
  · rintro rfl
    unfold frN dN dW; simp
theorem ds_zero {ax ay bx by_ px py : Int} (hn : nearL [(ax, ay), (bx, by_), (px, py)] = true) : dsN ax ay bx by_ px py = 0 ↔ onF ax ay bx by_ px py = true := by
  obtain ⟨na, nb, np⟩ := (near3_iff _ _ _ _ _ _).mp hn
  have hs := sq_le na nb
  unfold dsN onF
  rw [if_pos hn, hn]
  simp only [Bool.true_and, Bool.and_eq_true, decide_eq_true_eq]
  by_cases h1 : al ax ay bx by_ px py ≤ 0
  · rw [if_pos h1]
    constructor
    · intro h
      obtain ⟨rfl, rfl⟩ := sq_zero h
      have ht : tw ax ay bx by_ ax ay = 0 := by unfold tw; grind
      have ha : al ax ay bx by_ ax ay = 0 := by unfold al; grind
      exact ⟨ht, (inb_al ht).mpr (by omega)⟩
    · rintro ⟨ht, hi⟩
      have := (inb_al ht).mp hi
      have := sq_nn ax ay px py
      omega
  · rw [if_neg h1]
    by_cases h2 : sq ax ay bx by_ ≤ al ax ay bx by_ px py
    · rw [if_pos h2]
      constructor
      · intro h
        obtain ⟨rfl, rfl⟩ := sq_zero h
        have ht : tw ax ay bx by_ bx by_ = 0 := by unfold tw; grind
        exact ⟨ht, (inb_al ht).mpr h2⟩
      · rintro ⟨ht, hi⟩
        have := (inb_al ht).mp hi
        have := sq_nn bx by_ px py
        have := sq_far ax ay bx by_ px py
        omega
    · rw [if_neg h2, frN_zero (by omega) (by omega)]
      have hp := sq_nonneg (tw ax ay bx by_ px py)
      constructor
      · intro h
        have h0 : tw ax ay bx by_ px py * tw ax ay bx by_ px py = 0 := by omega
        have ht : tw ax ay bx by_ px py = 0 := by rcases Int.mul_eq_zero.1 h0 with a | a <;> exact a
        refine ⟨ht, (inb_al ht).mpr ?_⟩
        have hl := lagrange ax ay bx by_ px py
        rw [h0, Int.zero_add] at hl
        generalize al ax ay bx by_ px py = A at *
        generalize sq ax ay bx by_ = S at *
        generalize sq ax ay px py = Q at *
        apply Classical.byContradiction
        intro hq
        have a1 : A * A < S * A := Int.mul_lt_mul_of_pos_right (by omega) (by omega)
        have a2 : S * A ≤ S * Q := Int.mul_le_mul_of_nonneg_left (by omega) (by omega)
        omega
      · rintro ⟨ht, -⟩
        rw [ht]; rfl
theorem ds_sym {ax ay bx by_ px py : Int} (hn : nearL [(ax, ay), (bx, by_), (px, py)] = true) : dsN bx by_ ax ay px py = dsN ax ay bx by_ px py ∧ dsD bx by_ ax ay px py = dsD ax ay bx by_ px py := by
  have hn2 : nearL [(bx, by_), (ax, ay), (px, py)] = true := by
    have h := (near3_iff _ _ _ _ _ _).mp hn
    exact (near3_iff _ _ _ _ _ _).mpr ⟨h.2.1, h.1, h.2.2⟩
  have hs := sq_nn ax ay bx by_
  unfold dsN dsD
  rw [if_pos hn, if_pos hn2, if_pos hn, if_pos hn2, al_sym, sq_sym ax ay bx by_, tw_sym ax ay bx by_]
  by_cases h1 : al ax ay bx by_ px py ≤ 0
  · rw [if_pos h1, if_pos h1]
    by_cases h3 : sq ax ay bx by_ - al ax ay bx by_ px py ≤ 0
    · obtain ⟨rfl, rfl⟩ := sq_zero (show sq ax ay bx by_ = 0 by omega)
      rw [if_pos h3, if_pos h3]; exact ⟨rfl, rfl⟩
    · have h4 : sq ax ay bx by_ ≤ sq ax ay bx by_ - al ax ay bx by_ px py := by omega
      rw [if_neg h3, if_neg h3, if_pos h4, if_pos h4]; exact ⟨rfl, rfl⟩
  · rw [if_neg h1, if_neg h1]
    by_cases h2 : sq ax ay bx by_ ≤ al ax ay bx by_ px py
    · have h3 : sq ax ay bx by_ - al ax ay bx by_ px py ≤ 0 := by omega
      rw [if_pos h2, if_pos h2, if_pos h3, if_pos h3]; exact ⟨rfl, rfl⟩
    · have h3 : ¬ sq ax ay bx by_ - al ax ay bx by_ px py ≤ 0 := by omega
      have h4 : ¬ sq ax ay bx by_ ≤ sq ax ay bx by_ - al ax ay bx by_ px py := by omega
      rw [if_neg h2, if_neg h2, if_neg h3, if_neg h3, if_neg h4, if_neg h4]; exact ⟨rfl, rfl⟩
theorem ds_range {ax ay bx by_ px py : Int} (hn : nearL [(ax, ay), (bx, by_), (px, py)] = true) : 0 ≤ dsN ax ay bx by_ px py ∧ 1 ≤ dsD ax ay bx by_ px py := by
  unfold dsN dsD
  rw [if_pos hn, if_pos hn]
  have h1 := sq_nn ax ay px py
  have h2 := sq_nn bx by_ px py
  have h3 := sq_nn ax ay bx by_
  by_cases h1 : al ax ay bx by_ px py ≤ 0
  · rw [if_pos h1, if_pos h1]; omega
  · rw [if_neg h1, if_neg h1]
    by_cases h2 : sq ax ay bx by_ ≤ al ax ay bx by_ px py
    · rw [if_pos h2, if_pos h2]; omega
    · rw [if_neg h2, if_neg h2]
      exact ⟨frN_nn _ _, frD_pos _ _ (by omega)⟩
end Go.Proofs.Ytkojdifgmppfpaa.Geo
