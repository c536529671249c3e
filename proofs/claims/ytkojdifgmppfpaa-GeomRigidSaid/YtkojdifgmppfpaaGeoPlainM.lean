/- Movements and quarter turns: what they keep. Plain laws. -/
import Derived.Test.YtkojdifgmppfpaaGeoPlainJ
namespace Go.Proofs.Ytkojdifgmppfpaa.Geo
open Go.Proofs.Ytkojdifgmppfpaa
set_option linter.unusedVariables false
/-- two stretches of numbers: how many numbers they share *as segments* -/
def shP (a b c d : Int) : Int :=
  if max (min a b) (min c d) = min (max a b) (max c d) then 1 else if max (min a b) (min c d) < min (max a b) (max c d) then 2 else 0
/-- along a line the order of points is that of their projections -/
theorem line_order {ax ay bx by_ px py qx qy : Int} (hab : bf ax ay bx by_ = true) (hp : tw ax ay bx by_ px py = 0) (hq : tw ax ay bx by_ qx qy = 0) :
    (bf px py qx qy = true ↔ al ax ay bx by_ px py < al ax ay bx by_ qx qy) ∧ ((px = qx ∧ py = qy) ↔ al ax ay bx by_ px py = al ax ay bx by_ qx qy) := by
  have hd : al ax ay bx by_ qx qy - al ax ay bx by_ px py = (bx - ax) * (qx - px) + (by_ - ay) * (qy - py) := by unfold al; grind
  have hx : (bx - ax) * (qy - py) = (by_ - ay) * (qx - px) := by unfold tw at hp hq; grind
  have hb : ax < bx ∨ (ax = bx ∧ ay < by_) := by unfold bf at hab; simpa using hab
  generalize hP : al ax ay bx by_ px py = P at *
  generalize hQ : al ax ay bx by_ qx qy = Q at *
  have hbf : bf px py qx qy = true ↔ (px < qx ∨ (px = qx ∧ py < qy)) := by unfold bf; simp
  rw [hbf]
  obtain ⟨u, hu⟩ : ∃ u, bx - ax = u := ⟨_, rfl⟩
  obtain ⟨v, hv⟩ : ∃ v, by_ - ay = v := ⟨_, rfl⟩
  obtain ⟨x, hx'⟩ : ∃ x, qx - px = x := ⟨_, rfl⟩
  obtain ⟨y, hy'⟩ : ∃ y, qy - py = y := ⟨_, rfl⟩
  rw [hu, hv, hx', hy'] at hd hx
  have g1 : (px < qx ∨ (px = qx ∧ py < qy)) ↔ (0 < x ∨ (x = 0 ∧ 0 < y)) := by omega
  have g2 : (px = qx ∧ py = qy) ↔ (x = 0 ∧ y = 0) := by omega
  have g3 : 0 < u ∨ (u = 0 ∧ 0 < v) := by omega
  rw [g1, g2]
  have g4 : P < Q ↔ 0 < u * x + v * y := by omega
  have g5 : P = Q ↔ u * x + v * y = 0 := by omega
  rw [g4, g5]
  clear hP hQ hbf hb g1 g2 g4 g5 hd hp hq hab
  rcases g3 with h | ⟨h, h'⟩
  · have e : u * (u * x + v * y) = x * (u * u + v * v) := by
      have : v * (u * y) = v * (v * x) := by rw [hx]
      grind
    have hs : 0 < u * u + v * v := by
      have := Int.mul_pos h h; have := sq_nonneg v; omega
    have hx0 : x = 0 → y = 0 := by
      intro h0; subst h0; rw [Int.mul_zero] at hx
      rcases Int.mul_eq_zero.mp hx with h1 | h1
      · omega
      · exact h1
    generalize u * u + v * v = S at *
    generalize u * x + v * y = D at *
    rcases Int.lt_trichotomy x 0 with h1 | h1 | h1
    · have : x * S < 0 := Int.mul_neg_of_neg_of_pos h1 hs
      have hD : D < 0 := by
        apply Classical.byContradiction; intro hh
        have := Int.mul_nonneg (show 0 ≤ u by omega) (show 0 ≤ D by omega)
        omega
      omega
    · subst h1
      have := hx0 rfl
      have hD : D = 0 := by
        rw [Int.zero_mul] at e
        rcases Int.mul_eq_zero.mp e with h1 | h1 <;> omega
      omega
    · have : 0 < x * S := Int.mul_pos h1 hs
      have hD : 0 < D := by
        apply Classical.byContradiction; intro hh
        have := Int.mul_nonpos_of_nonneg_of_nonpos (show 0 ≤ u by omega) (show D ≤ 0 by omega)
        omega
      omega
  · subst h
    rw [Int.zero_mul] at hx
    have hx0 : x = 0 := by rcases Int.mul_eq_zero.mp hx.symm with h1 | h1 <;> omega
    subst hx0
    rw [Int.mul_zero, Int.zero_add]
    rcases Int.lt_trichotomy y 0 with h1 | h1 | h1
    · have : v * y < 0 := Int.mul_neg_of_pos_of_neg h' h1
      omega
    · subst h1; rw [Int.mul_zero]; omega
    · have : 0 < v * y := Int.mul_pos h' h1
      omega
theorem sh_par1 {ax ay bx by_ cx cy dx dy : Int} (hab : bf ax ay bx by_ = true) (hc : tw ax ay bx by_ cx cy = 0) (hd : tw ax ay bx by_ dx dy = 0) :
    shF ax ay bx by_ cx cy dx dy = shP (al ax ay bx by_ ax ay) (al ax ay bx by_ bx by_) (al ax ay bx by_ cx cy) (al ax ay bx by_ dx dy) := by
  have ha : tw ax ay bx by_ ax ay = 0 := by unfold tw; grind
  have hb : tw ax ay bx by_ bx by_ = 0 := by unfold tw; grind
  have oba := line_order hab hb ha
  have hlt := (line_order hab ha hb).1.mp hab
  have odc := line_order hab hd hc
  have oac := line_order hab ha hc
  have oad := line_order hab ha hd
  have ocb := line_order hab hc hb
  have odb := line_order hab hd hb
  have oab := line_order hab ha hb
  have ocd := line_order hab hc hd
  have oca := line_order hab hc ha
  have occ := line_order hab hc hc
  have odd := line_order hab hd hd
  generalize al ax ay bx by_ ax ay = A at *
  generalize al ax ay bx by_ bx by_ = B at *
  generalize al ax ay bx by_ cx cy = C at *
  generalize al ax ay bx by_ dx dy = D at *
  unfold shF shP
  have n1 : ¬ bf bx by_ ax ay = true := fun h => by have := oba.1.mp h; omega
  rw [if_neg n1]
  dsimp only
  by_cases h2 : bf dx dy cx cy = true
  · rw [if_pos h2]
    have k2 := odc.1.mp h2
    dsimp only
    by_cases h3 : bf ax ay dx dy = true
    · rw [if_pos h3]
      have k3 := oad.1.mp h3
      by_cases h4 : bf cx cy bx by_ = true
      · rw [if_pos h4]; have k4 := ocb.1.mp h4
        simp only [odc.1, odc.2]; (repeat' split) <;> omega
      · rw [if_neg h4]; have k4 := (not_congr ocb.1).mp h4
        simp only [odb.1, odb.2]; (repeat' split) <;> omega
    · rw [if_neg h3]
      have k3 := (not_congr oad.1).mp h3
      by_cases h4 : bf cx cy bx by_ = true
      · rw [if_pos h4]; have k4 := ocb.1.mp h4
        simp only [oac.1, oac.2]; (repeat' split) <;> omega
      · rw [if_neg h4]; have k4 := (not_congr ocb.1).mp h4
        simp only [oab.1, oab.2]; (repeat' split) <;> omega
  · rw [if_neg h2]
    have k2 := (not_congr odc.1).mp h2
    dsimp only
    by_cases h3 : bf ax ay cx cy = true
    · rw [if_pos h3]
      have k3 := oac.1.mp h3
      by_cases h4 : bf dx dy bx by_ = true
      · rw [if_pos h4]; have k4 := odb.1.mp h4
        simp only [ocd.1, ocd.2]; (repeat' split) <;> omega
      · rw [if_neg h4]; have k4 := (not_congr odb.1).mp h4
        simp only [ocb.1, ocb.2]; (repeat' split) <;> omega
    · rw [if_neg h3]
      have k3 := (not_congr oac.1).mp h3
      by_cases h4 : bf dx dy bx by_ = true
      · rw [if_pos h4]; have k4 := odb.1.mp h4
        simp only [oad.1, oad.2]; (repeat' split) <;> omega
      · rw [if_neg h4]; have k4 := (not_congr odb.1).mp h4
        simp only [oab.1, oab.2]; (repeat' split) <;> omega
theorem shP_rev (k a b c d : Int) : shP (k - b) (k - a) (k - c) (k - d) = shP a b c d := by
  unfold shP
  (repeat' split) <;> omega
theorem sh_par {ax ay bx by_ cx cy dx dy : Int} (hab : eqP ax ay bx by_ = false) (hc : tw ax ay bx by_ cx cy = 0) (hd : tw ax ay bx by_ dx dy = 0) :
    shF ax ay bx by_ cx cy dx dy = shP (al ax ay bx by_ ax ay) (al ax ay bx by_ bx by_) (al ax ay bx by_ cx cy) (al ax ay bx by_ dx dy) := by
  by_cases h : bf ax ay bx by_ = true
  · exact sh_par1 h hc hd
  · have h' : bf bx by_ ax ay = true := by
      unfold bf at *; unfold eqP at hab; simp at *; omega
    have hc' : tw bx by_ ax ay cx cy = 0 := by have : tw bx by_ ax ay cx cy = -tw ax ay bx by_ cx cy := by (unfold tw; grind)
                                               omega
    have hd' : tw bx by_ ax ay dx dy = 0 := by have : tw bx by_ ax ay dx dy = -tw ax ay bx by_ dx dy := by (unfold tw; grind)
                                               omega
    rw [← sh_flip, sh_par1 h' hc' hd', al_sym ax ay bx by_ bx by_, al_sym ax ay bx by_ ax ay, al_sym ax ay bx by_ cx cy, al_sym ax ay bx by_ dx dy, shP_rev]
/-- what movements and quarter turns keep, of four points -/
structure Kept (ax ay bx by_ cx cy dx dy ax' ay' bx' by' cx' cy' dx' dy' : Int) : Prop where
  tw1 : tw ax' ay' bx' by' cx' cy' = tw ax ay bx by_ cx cy
  tw2 : tw ax' ay' bx' by' dx' dy' = tw ax ay bx by_ dx dy
  tw3 : tw cx' cy' dx' dy' ax' ay' = tw cx cy dx dy ax ay
  tw4 : tw cx' cy' dx' dy' bx' by' = tw cx cy dx dy bx by_
  ala : al ax' ay' bx' by' ax' ay' = al ax ay bx by_ ax ay
  alb : al ax' ay' bx' by' bx' by' = al ax ay bx by_ bx by_
  alc : al ax' ay' bx' by' cx' cy' = al ax ay bx by_ cx cy
  ald : al ax' ay' bx' by' dx' dy' = al ax ay bx by_ dx dy
  dca : dt cx' cy' ax' ay' dx' dy' ax' ay' = dt cx cy ax ay dx dy ax ay
  dac : dt ax' ay' cx' cy' bx' by' cx' cy' = dt ax ay cx cy bx by_ cx cy
  sab : sq ax' ay' bx' by' = sq ax ay bx by_
  sac : sq ax' ay' cx' cy' = sq ax ay cx cy
  sbc : sq bx' by' cx' cy' = sq bx by_ cx cy
  eab : eqP ax' ay' bx' by' = eqP ax ay bx by_
  ecd : eqP cx' cy' dx' dy' = eqP cx cy dx dy
theorem on_kept {ax ay bx by_ cx cy ax' ay' bx' by' cx' cy' : Int} (hn : nearL [(ax, ay), (bx, by_), (cx, cy)] = true) (hn' : nearL [(ax', ay'), (bx', by'), (cx', cy')] = true)
    (ht : tw ax' ay' bx' by' cx' cy' = tw ax ay bx by_ cx cy) (hd : dt ax' ay' cx' cy' bx' by' cx' cy' = dt ax ay cx cy bx by_ cx cy) : onF ax' ay' bx' by' cx' cy' = onF ax ay bx by_ cx cy := by
  unfold onF
  rw [hn, hn', ht]
  simp only [Bool.true_and]
  by_cases h : tw ax ay bx by_ cx cy = 0
  · have h1 := on_dot h
    have h2 := on_dot (ht.trans h)
    rw [hd] at h2
    rw [show inb ax' ay' bx' by' cx' cy' = inb ax ay bx by_ cx cy by rw [Bool.eq_iff_iff, ← h1, ← h2]]
  · rw [decide_eq_false h, Bool.false_and, Bool.false_and]
theorem mt_kept {ax ay bx by_ cx cy dx dy ax' ay' bx' by' cx' cy' dx' dy' : Int} (hn : nearL [(ax, ay), (bx, by_), (cx, cy), (dx, dy)] = true) (hn' : nearL [(ax', ay'), (bx', by'), (cx', cy'), (dx', dy')] = true)
    (K : Kept ax ay bx by_ cx cy dx dy ax' ay' bx' by' cx' cy' dx' dy') : mtF ax' ay' bx' by' cx' cy' dx' dy' = mtF ax ay bx by_ cx cy dx dy := by
  obtain ⟨na, nb, nc, nd⟩ := (near4_iff _ _ _ _ _ _ _ _).mp hn
  obtain ⟨na', nb', nc', nd'⟩ := (near4_iff _ _ _ _ _ _ _ _).mp hn'
  have s1 : sd ax' ay' bx' by' cx' cy' = sd ax ay bx by_ cx cy := by unfold sd twF; rw [if_pos ((near3_iff _ _ _ _ _ _).mpr ⟨na, nb, nc⟩), if_pos ((near3_iff _ _ _ _ _ _).mpr ⟨na', nb', nc'⟩), K.tw1]
  have s2 : sd ax' ay' bx' by' dx' dy' = sd ax ay bx by_ dx dy := by unfold sd twF; rw [if_pos ((near3_iff _ _ _ _ _ _).mpr ⟨na, nb, nd⟩), if_pos ((near3_iff _ _ _ _ _ _).mpr ⟨na', nb', nd'⟩), K.tw2]
  have s3 : sd cx' cy' dx' dy' ax' ay' = sd cx cy dx dy ax ay := by unfold sd twF; rw [if_pos ((near3_iff _ _ _ _ _ _).mpr ⟨nc, nd, na⟩), if_pos ((near3_iff _ _ _ _ _ _).mpr ⟨nc', nd', na'⟩), K.tw3]
  have s4 : sd cx' cy' dx' dy' bx' by' = sd cx cy dx dy bx by_ := by unfold sd twF; rw [if_pos ((near3_iff _ _ _ _ _ _).mpr ⟨nc, nd, nb⟩), if_pos ((near3_iff _ _ _ _ _ _).mpr ⟨nc', nd', nb'⟩), K.tw4]
  have o1 : onF cx' cy' dx' dy' ax' ay' = onF cx cy dx dy ax ay := on_kept ((near3_iff _ _ _ _ _ _).mpr ⟨nc, nd, na⟩) ((near3_iff _ _ _ _ _ _).mpr ⟨nc', nd', na'⟩) K.tw3 K.dca
  have o2 : onF ax' ay' bx' by' cx' cy' = onF ax ay bx by_ cx cy := on_kept ((near3_iff _ _ _ _ _ _).mpr ⟨na, nb, nc⟩) ((near3_iff _ _ _ _ _ _).mpr ⟨na', nb', nc'⟩) K.tw1 K.dac
  unfold mtF
  rw [hn, hn', if_pos rfl, if_pos rfl, K.eab, K.ecd, s1, s2, s3, s4, o1, o2]
  by_cases hab : eqP ax ay bx by_ = true
  · rw [if_pos hab, if_pos hab]
  · rw [if_neg hab, if_neg hab]
    have hab' : eqP ax ay bx by_ = false := by simpa using hab
    by_cases h : sd ax ay bx by_ cx cy = 0 ∧ sd ax ay bx by_ dx dy = 0
    · have z0 : ∀ t : Int, sgn t = 0 → t = 0 := by
        intro t; unfold sgn; split <;> (try split) <;> simp <;> omega
      have e1 : tw ax ay bx by_ cx cy = 0 := by
        have := h.1; unfold sd twF at this; rw [if_pos ((near3_iff _ _ _ _ _ _).mpr ⟨na, nb, nc⟩)] at this; exact z0 _ this
      have e2 : tw ax ay bx by_ dx dy = 0 := by
        have := h.2; unfold sd twF at this; rw [if_pos ((near3_iff _ _ _ _ _ _).mpr ⟨na, nb, nd⟩)] at this; exact z0 _ this
      rw [if_pos h, if_pos h, sh_par hab' e1 e2, sh_par (K.eab.trans hab') (K.tw1.trans e1) (K.tw2.trans e2), K.ala, K.alb, K.alc, K.ald]
    · rw [if_neg h, if_neg h]
theorem ds_kept {ax ay bx by_ cx cy dx dy ax' ay' bx' by' cx' cy' dx' dy' : Int} (hn : nearL [(ax, ay), (bx, by_), (cx, cy)] = true) (hn' : nearL [(ax', ay'), (bx', by'), (cx', cy')] = true)
    (K : Kept ax ay bx by_ cx cy dx dy ax' ay' bx' by' cx' cy' dx' dy') : dsN ax' ay' bx' by' cx' cy' = dsN ax ay bx by_ cx cy ∧ dsD ax' ay' bx' by' cx' cy' = dsD ax ay bx by_ cx cy := by
  unfold dsN dsD
  rw [hn, hn', K.alc, K.sab, K.sac, K.sbc, K.tw1]
  exact ⟨rfl, rfl⟩
theorem tw_kept {ax ay bx by_ cx cy dx dy ax' ay' bx' by' cx' cy' dx' dy' : Int} (hn : nearL [(ax, ay), (bx, by_), (cx, cy)] = true) (hn' : nearL [(ax', ay'), (bx', by'), (cx', cy')] = true)
    (K : Kept ax ay bx by_ cx cy dx dy ax' ay' bx' by' cx' cy' dx' dy') : twF ax' ay' bx' by' cx' cy' = twF ax ay bx by_ cx cy := by
  unfold twF
  rw [hn, hn', K.tw1]
theorem kept_moved (ax ay bx by_ cx cy dx dy ux uy : Int) : Kept ax ay bx by_ cx cy dx dy (ax + ux) (ay + uy) (bx + ux) (by_ + uy) (cx + ux) (cy + uy) (dx + ux) (dy + uy) := by
  refine ⟨?_, ?_, ?_, ?_, ?_, ?_, ?_, ?_, ?_, ?_, ?_, ?_, ?_, ?_, ?_⟩
  case refine_14 => unfold eqP; rw [Bool.eq_iff_iff]; simp only [Bool.and_eq_true, decide_eq_true_eq]; omega
  case refine_15 => unfold eqP; rw [Bool.eq_iff_iff]; simp only [Bool.and_eq_true, decide_eq_true_eq]; omega
  all_goals first | (unfold tw; grind) | (unfold al; grind) | (unfold dt; grind) | (unfold sq; grind)
theorem kept_turned (ax ay bx by_ cx cy dx dy : Int) : Kept ax ay bx by_ cx cy dx dy (-ay) ax (-by_) bx (-cy) cx (-dy) dx := by
  refine ⟨?_, ?_, ?_, ?_, ?_, ?_, ?_, ?_, ?_, ?_, ?_, ?_, ?_, ?_, ?_⟩
  case refine_14 => unfold eqP; rw [Bool.eq_iff_iff]; simp only [Bool.and_eq_true, decide_eq_true_eq]; omega
  case refine_15 => unfold eqP; rw [Bool.eq_iff_iff]; simp only [Bool.and_eq_true, decide_eq_true_eq]; omega
  all_goals first | (unfold tw; grind) | (unfold al; grind) | (unfold dt; grind) | (unfold sq; grind)
end Go.Proofs.Ytkojdifgmppfpaa.Geo
