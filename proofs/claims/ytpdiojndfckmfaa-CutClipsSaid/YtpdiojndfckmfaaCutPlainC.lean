/- Plain laws of Cross: the point that two segments have in common. No program in sight. -/
import Derived.Test.YtpdiojndfckmfaaCutBase
import Derived.Test.YtpdiojndfckmfaaGeoPlainK
set_option linter.unusedVariables false
namespace Go.Proofs.Ytpdiojndfckmfaa.Cut
open Go.Proofs.Ytpdiojndfckmfaa
open Num Geo
/-- the error of Cross -/
def crE (ax ay bx by_ cx cy dx dy : Int) : Int :=
  if nearL [(ax, ay), (bx, by_), (cx, cy), (dx, dy)] = true then (if mtF ax ay bx by_ cx cy dx dy = 0 then 7 else if mtF ax ay bx by_ cx cy dx dy = 2 then 1 else 0) else 2
/-- the point of Cross -/
def crP (ax ay bx by_ cx cy dx dy : Int) : Int × Int :=
  if crE ax ay bx by_ cx cy dx dy = 0 then
    (if onF cx cy dx dy ax ay = true then (ax, ay) else if onF cx cy dx dy bx by_ = true then (bx, by_) else if onF ax ay bx by_ cx cy = true then (cx, cy) else if onF ax ay bx by_ dx dy = true then (dx, dy)
     else (ax + rnd ((bx - ax) * cr ax ay cx cy cx cy dx dy) (cr ax ay bx by_ cx cy dx dy), ay + rnd ((by_ - ay) * cr ax ay cx cy cx cy dx dy) (cr ax ay bx by_ cx cy dx dy)))
  else (0, 0)
theorem bf_anti {ax ay bx by_ : Int} (h1 : bf ax ay bx by_ = false) (h2 : bf bx by_ ax ay = false) : ax = bx ∧ ay = by_ := by
  unfold bf at *; simp at *; omega
theorem bf_irr (ax ay : Int) : bf ax ay ax ay = false := by unfold bf; simp
theorem bf_asym {ax ay bx by_ : Int} (h1 : bf ax ay bx by_ = true) : bf bx by_ ax ay = false := by
  unfold bf at *; simp at *; omega
theorem sh_flip2 (ax ay bx by_ cx cy dx dy : Int) : shF ax ay bx by_ dx dy cx cy = shF ax ay bx by_ cx cy dx dy := by
  rw [← sh_comm ax ay bx by_ dx dy cx cy, sh_flip cx cy dx dy ax ay bx by_, sh_comm ax ay bx by_ cx cy dx dy]
theorem three (p q : Prop) [Decidable p] [Decidable q] : (if p then (1 : Int) else if q then 2 else 0) = 0 ∨ (if p then (1 : Int) else if q then 2 else 0) = 1 ∨ (if p then (1 : Int) else if q then 2 else 0) = 2 := by
  by_cases h : p
  · rw [if_pos h]; omega
  · rw [if_neg h]
    by_cases g : q
    · rw [if_pos g]; omega
    · rw [if_neg g]; omega
theorem sh_three (ax ay bx by_ cx cy dx dy : Int) : shF ax ay bx by_ cx cy dx dy = 0 ∨ shF ax ay bx by_ cx cy dx dy = 1 ∨ shF ax ay bx by_ cx cy dx dy = 2 := by
  unfold shF; exact three _ _
theorem sh_sorted {ax ay bx by_ cx cy dx dy : Int} (h1 : bf bx by_ ax ay = false) (h2 : bf dx dy cx cy = false) (h : shF ax ay bx by_ cx cy dx dy = 1) :
    (if bf ax ay cx cy = true then (cx, cy) else (ax, ay)) = (if bf dx dy bx by_ = true then (dx, dy) else (bx, by_)) := by
  unfold shF at h
  simp only [h1, h2, Bool.false_eq_true, if_false] at h
  apply Classical.byContradiction
  intro hne
  rw [if_neg (fun g => hne (Prod.ext g.1 g.2))] at h
  split at h <;> omega
theorem uniq_sorted {ax ay bx by_ cx cy dx dy ex ey : Int} (h1 : bf bx by_ ax ay = false) (h2 : bf dx dy cx cy = false) (h : shF ax ay bx by_ cx cy dx dy = 1)
    (o1 : onF ax ay bx by_ ex ey = true) (o2 : onF cx cy dx dy ex ey = true) : (if bf ax ay cx cy = true then (cx, cy) else (ax, ay)) = (ex, ey) := by
  have hs := sh_sorted h1 h2 h
  obtain ⟨-, t1, i1⟩ := onF_true o1
  obtain ⟨-, t2, i2⟩ := onF_true o2
  obtain ⟨l1, l2⟩ := lexmid i1 t1 h1
  obtain ⟨l3, l4⟩ := lexmid i2 t2 h2
  by_cases g1 : bf ax ay cx cy = true <;> by_cases g2 : bf dx dy bx by_ = true
  · rw [if_pos g1, if_pos g2] at hs
    rw [if_pos g1]
    obtain ⟨rfl, rfl⟩ := Prod.mk.inj hs
    obtain ⟨rfl, rfl⟩ := bf_anti l3 l4; rfl
  · rw [if_pos g1, if_neg g2] at hs
    rw [if_pos g1]
    obtain ⟨rfl, rfl⟩ := Prod.mk.inj hs
    obtain ⟨rfl, rfl⟩ := bf_anti l3 l2; rfl
  · rw [if_neg g1, if_pos g2] at hs
    rw [if_neg g1]
    obtain ⟨rfl, rfl⟩ := Prod.mk.inj hs
    obtain ⟨rfl, rfl⟩ := bf_anti l1 l4; rfl
  · rw [if_neg g1, if_neg g2] at hs
    rw [if_neg g1]
    obtain ⟨rfl, rfl⟩ := Prod.mk.inj hs
    obtain ⟨rfl, rfl⟩ := bf_anti l1 l2; rfl
theorem uniq_line {ax ay bx by_ cx cy dx dy ex ey fx fy : Int} (h : shF ax ay bx by_ cx cy dx dy = 1)
    (o1 : onF ax ay bx by_ ex ey = true) (o2 : onF cx cy dx dy ex ey = true) (o3 : onF ax ay bx by_ fx fy = true) (o4 : onF cx cy dx dy fx fy = true) : (ex, ey) = (fx, fy) := by
  cases g1 : bf bx by_ ax ay <;> cases g2 : bf dx dy cx cy
  · exact (uniq_sorted g1 g2 h o1 o2).symm.trans (uniq_sorted g1 g2 h o3 o4)
  · rw [← sh_flip2] at h
    rw [← on_back cx cy] at o2 o4
    exact (uniq_sorted g1 (bf_asym g2) h o1 o2).symm.trans (uniq_sorted g1 (bf_asym g2) h o3 o4)
  · rw [← sh_flip] at h
    rw [← on_back ax ay] at o1 o3
    exact (uniq_sorted (bf_asym g1) g2 h o1 o2).symm.trans (uniq_sorted (bf_asym g1) g2 h o3 o4)
  · rw [← sh_flip2, ← sh_flip] at h
    rw [← on_back ax ay] at o1 o3
    rw [← on_back cx cy] at o2 o4
    exact (uniq_sorted (bf_asym g1) (bf_asym g2) h o1 o2).symm.trans (uniq_sorted (bf_asym g1) (bf_asym g2) h o3 o4)
theorem uniq_cross {ax ay bx by_ cx cy dx dy ex ey fx fy : Int} (h : cr ax ay bx by_ cx cy dx dy ≠ 0)
    (o1 : tw ax ay bx by_ ex ey = 0) (o2 : tw cx cy dx dy ex ey = 0) (o3 : tw ax ay bx by_ fx fy = 0) (o4 : tw cx cy dx dy fx fy = 0) : (ex, ey) = (fx, fy) := by
  have e1 : (ex - fx) * cr ax ay bx by_ cx cy dx dy = (dx - cx) * (tw ax ay bx by_ ex ey - tw ax ay bx by_ fx fy) - (bx - ax) * (tw cx cy dx dy ex ey - tw cx cy dx dy fx fy) ∨ (ex - fx) * cr ax ay bx by_ cx cy dx dy = -((dx - cx) * (tw ax ay bx by_ ex ey - tw ax ay bx by_ fx fy) - (bx - ax) * (tw cx cy dx dy ex ey - tw cx cy dx dy fx fy)) := by
    unfold tw cr; first | (left; grind) | (right; grind)
  have e2 : (ey - fy) * cr ax ay bx by_ cx cy dx dy = (dy - cy) * (tw ax ay bx by_ ex ey - tw ax ay bx by_ fx fy) - (by_ - ay) * (tw cx cy dx dy ex ey - tw cx cy dx dy fx fy) ∨ (ey - fy) * cr ax ay bx by_ cx cy dx dy = -((dy - cy) * (tw ax ay bx by_ ex ey - tw ax ay bx by_ fx fy) - (by_ - ay) * (tw cx cy dx dy ex ey - tw cx cy dx dy fx fy)) := by
    unfold tw cr; first | (left; grind) | (right; grind)
  rw [o1, o2, o3, o4] at e1 e2
  have z1 : (ex - fx) * cr ax ay bx by_ cx cy dx dy = 0 := by
    rcases e1 with e | e <;> rw [e] <;> simp
  have z2 : (ey - fy) * cr ax ay bx by_ cx cy dx dy = 0 := by
    rcases e2 with e | e <;> rw [e] <;> simp
  have y1 := (Int.mul_eq_zero.1 z1).resolve_right h
  have y2 := (Int.mul_eq_zero.1 z2).resolve_right h
  rw [show ex = fx by omega, show ey = fy by omega]
/-- if Meet is 1, the segments lie on one line and have one point in common, or they cross -/
theorem mt_one {ax ay bx by_ cx cy dx dy : Int} (hn : nearL [(ax, ay), (bx, by_), (cx, cy), (dx, dy)] = true) (h0 : mtF ax ay bx by_ cx cy dx dy ≠ 0) (h2 : mtF ax ay bx by_ cx cy dx dy ≠ 2) :
    (tw ax ay bx by_ cx cy = 0 ∧ tw ax ay bx by_ dx dy = 0 ∧ tw cx cy dx dy ax ay = 0 ∧ tw cx cy dx dy bx by_ = 0 ∧ shF ax ay bx by_ cx cy dx dy = 1) ∨
    (cr ax ay bx by_ cx cy dx dy ≠ 0 ∧ btN (cr ax ay bx by_ cx cy dx dy) (cr ax ay cx cy cx cy dx dy) = true) := by
  rw [← rm_eq] at h0 h2
  unfold rmF at h0 h2
  rw [if_pos hn] at h0 h2
  by_cases g1 : eqP ax ay bx by_ = true ∧ eqP cx cy dx dy = true ∧ eqP ax ay cx cy = false
  · rw [if_pos g1] at h0; exact absurd rfl h0
  · rw [if_neg g1] at h0 h2
    by_cases g2 : cr ax ay bx by_ cx cy dx dy = 0
    · rw [if_pos g2] at h0 h2
      left
      by_cases g3 : tw ax ay bx by_ cx cy ≠ 0 ∨ tw ax ay bx by_ dx dy ≠ 0 ∨ tw cx cy dx dy ax ay ≠ 0 ∨ tw cx cy dx dy bx by_ ≠ 0
      · rw [if_pos g3] at h0; exact absurd rfl h0
      · rw [if_neg g3] at h0 h2
        refine ⟨by omega, by omega, by omega, by omega, ?_⟩
        have := sh_three ax ay bx by_ cx cy dx dy
        omega
    · rw [if_neg g2] at h0 h2
      right
      refine ⟨g2, ?_⟩
      cases e : btN (cr ax ay bx by_ cx cy dx dy) (cr ax ay cx cy cx cy dx dy)
      · rw [e] at h0; exact absurd rfl h0
      · rfl
theorem cross_uniq {ax ay bx by_ cx cy dx dy ex ey fx fy : Int} (hn : nearL [(ax, ay), (bx, by_), (cx, cy), (dx, dy)] = true) (h0 : mtF ax ay bx by_ cx cy dx dy ≠ 0) (h2 : mtF ax ay bx by_ cx cy dx dy ≠ 2)
    (o1 : onF ax ay bx by_ ex ey = true) (o2 : onF cx cy dx dy ex ey = true) (o3 : onF ax ay bx by_ fx fy = true) (o4 : onF cx cy dx dy fx fy = true) : (ex, ey) = (fx, fy) := by
  rcases mt_one hn h0 h2 with h | h
  · exact uniq_line h.2.2.2.2 o1 o2 o3 o4
  · exact uniq_cross h.1 (onF_true o1).2.1 (onF_true o2).2.1 (onF_true o3).2.1 (onF_true o4).2.1
theorem some_sorted {ax ay bx by_ cx cy dx dy : Int} (hn : nearL [(ax, ay), (bx, by_), (cx, cy), (dx, dy)] = true) (h1 : bf bx by_ ax ay = false) (h2 : bf dx dy cx cy = false) (h : shF ax ay bx by_ cx cy dx dy = 1)
    (t1 : tw ax ay bx by_ cx cy = 0) (t3 : tw cx cy dx dy ax ay = 0) : onF cx cy dx dy ax ay = true ∨ onF ax ay bx by_ cx cy = true := by
  have hs := sh_sorted h1 h2 h
  obtain ⟨na, nb, nc, nd⟩ := (near4_iff _ _ _ _ _ _ _ _).mp hn
  rw [on_near ((near3_iff _ _ _ _ _ _).mpr ⟨nc, nd, na⟩), on_near ((near3_iff _ _ _ _ _ _).mpr ⟨na, nb, nc⟩), t1, t3]
  simp only [decide_true, Bool.true_and]
  by_cases g1 : bf ax ay cx cy = true
  · right
    rw [if_pos g1] at hs
    refine lexin t1 (bf_asym g1) ?_
    by_cases g2 : bf dx dy bx by_ = true
    · rw [if_pos g2] at hs
      obtain ⟨rfl, rfl⟩ := Prod.mk.inj hs
      exact bf_asym g2
    · rw [if_neg g2] at hs
      obtain ⟨rfl, rfl⟩ := Prod.mk.inj hs
      exact bf_irr _ _
  · left
    rw [if_neg g1] at hs
    refine lexin t3 (by simpa using g1) ?_
    by_cases g2 : bf dx dy bx by_ = true
    · rw [if_pos g2] at hs
      obtain ⟨rfl, rfl⟩ := Prod.mk.inj hs
      exact bf_irr _ _
    · rw [if_neg g2] at hs
      obtain ⟨rfl, rfl⟩ := Prod.mk.inj hs
      simpa using g2
theorem near_perm4 (ax ay bx by_ cx cy dx dy : Int) : nearL [(ax, ay), (bx, by_), (dx, dy), (cx, cy)] = nearL [(ax, ay), (bx, by_), (cx, cy), (dx, dy)] ∧ nearL [(bx, by_), (ax, ay), (cx, cy), (dx, dy)] = nearL [(ax, ay), (bx, by_), (cx, cy), (dx, dy)] ∧ nearL [(cx, cy), (dx, dy), (ax, ay), (bx, by_)] = nearL [(ax, ay), (bx, by_), (cx, cy), (dx, dy)] := by
  refine ⟨?_, ?_, ?_⟩ <;> (simp only [nearL, List.all_cons, List.all_nil, Bool.and_true]; ac_rfl)
theorem some_line {ax ay bx by_ cx cy dx dy : Int} (hn : nearL [(ax, ay), (bx, by_), (cx, cy), (dx, dy)] = true) (h : shF ax ay bx by_ cx cy dx dy = 1)
    (t1 : tw ax ay bx by_ cx cy = 0) (t2 : tw ax ay bx by_ dx dy = 0) (t3 : tw cx cy dx dy ax ay = 0) (t4 : tw cx cy dx dy bx by_ = 0) : onF cx cy dx dy ax ay = true ∨ onF cx cy dx dy bx by_ = true ∨ onF ax ay bx by_ cx cy = true ∨ onF ax ay bx by_ dx dy = true := by
  have P := near_perm4 ax ay bx by_ cx cy dx dy
  cases g1 : bf bx by_ ax ay <;> cases g2 : bf dx dy cx cy
  · rcases some_sorted hn g1 g2 h t1 t3 with o | o
    · exact .inl o
    · exact .inr (.inr (.inl o))
  · rw [← sh_flip2] at h
    have := some_sorted (P.1.trans hn) g1 (bf_asym g2) h t2 (by rw [tw_back]; omega)
    rw [on_back cx cy] at this
    rcases this with o | o
    · exact .inl o
    · exact .inr (.inr (.inr o))
  · rw [← sh_flip] at h
    have := some_sorted (P.2.1.trans hn) (bf_asym g1) g2 h (by rw [tw_back]; omega) t4
    rw [on_back ax ay] at this
    rcases this with o | o
    · exact .inr (.inl o)
    · exact .inr (.inr (.inl o))
  · rw [← sh_flip2, ← sh_flip] at h
    have := some_sorted (((near_perm4 ax ay bx by_ dx dy cx cy).2.1.trans P.1).trans hn) (bf_asym g1) (bf_asym g2) h (by rw [tw_back]; omega) (by rw [tw_back]; omega)
    rw [on_back ax ay, on_back cx cy] at this
    rcases this with o | o
    · exact .inr (.inl o)
    · exact .inr (.inr (.inr o))
/-- between the ends -/
theorem cross_mid {ax ay bx by_ cx cy dx dy : Int} (hn : nearL [(ax, ay), (bx, by_), (cx, cy), (dx, dy)] = true) (h0 : mtF ax ay bx by_ cx cy dx dy ≠ 0) (h2 : mtF ax ay bx by_ cx cy dx dy ≠ 2)
    (o : ¬ (onF cx cy dx dy ax ay = true ∨ onF cx cy dx dy bx by_ = true ∨ onF ax ay bx by_ cx cy = true ∨ onF ax ay bx by_ dx dy = true)) :
    cr ax ay bx by_ cx cy dx dy ≠ 0 ∧ ((0 ≤ cr ax ay cx cy cx cy dx dy ∧ cr ax ay cx cy cx cy dx dy ≤ cr ax ay bx by_ cx cy dx dy) ∨ (cr ax ay bx by_ cx cy dx dy ≤ cr ax ay cx cy cx cy dx dy ∧ cr ax ay cx cy cx cy dx dy ≤ 0)) := by
  rcases mt_one hn h0 h2 with h | h
  · exact absurd (some_line hn h.2.2.2.2 h.1 h.2.1 h.2.2.1 h.2.2.2.1) o
  · refine ⟨h.1, ?_⟩
    have := h.2
    unfold btN at this
    split at this <;> simp at this <;> omega
theorem crE_cases (ax ay bx by_ cx cy dx dy : Int) : crE ax ay bx by_ cx cy dx dy = 0 ↔ (nearL [(ax, ay), (bx, by_), (cx, cy), (dx, dy)] = true ∧ mtF ax ay bx by_ cx cy dx dy ≠ 0 ∧ mtF ax ay bx by_ cx cy dx dy ≠ 2) := by
  unfold crE
  constructor
  · intro h
    split at h
    · rename_i hn
      split at h
      · omega
      · split at h
        · omega
        · rename_i k1 k2
          exact ⟨hn, k1, k2⟩
    · omega
  · rintro ⟨h1, h2, h3⟩
    rw [if_pos h1, if_neg h2, if_neg h3]
/-- the test of the ends -/
def anyOn (ax ay bx by_ cx cy dx dy : Int) : Prop := onF cx cy dx dy ax ay = true ∨ onF cx cy dx dy bx by_ = true ∨ onF ax ay bx by_ cx cy = true ∨ onF ax ay bx by_ dx dy = true
theorem on_ends {ax ay bx by_ cx cy dx dy : Int} (hn : nearL [(ax, ay), (bx, by_), (cx, cy), (dx, dy)] = true) : onF ax ay bx by_ ax ay = true ∧ onF ax ay bx by_ bx by_ = true ∧ onF cx cy dx dy cx cy = true ∧ onF cx cy dx dy dx dy = true := by
  obtain ⟨na, nb, nc, nd⟩ := (near4_iff _ _ _ _ _ _ _ _).mp hn
  refine ⟨?_, on_end ((near3_iff _ _ _ _ _ _).mpr ⟨na, nb, nb⟩), ?_, on_end ((near3_iff _ _ _ _ _ _).mpr ⟨nc, nd, nd⟩)⟩
  · rw [← on_back]; exact on_end ((near3_iff _ _ _ _ _ _).mpr ⟨nb, na, na⟩)
  · rw [← on_back]; exact on_end ((near3_iff _ _ _ _ _ _).mpr ⟨nd, nc, nc⟩)
theorem crP_on {ax ay bx by_ cx cy dx dy : Int} (h : crE ax ay bx by_ cx cy dx dy = 0) (o : anyOn ax ay bx by_ cx cy dx dy) :
    onF ax ay bx by_ (crP ax ay bx by_ cx cy dx dy).1 (crP ax ay bx by_ cx cy dx dy).2 = true ∧ onF cx cy dx dy (crP ax ay bx by_ cx cy dx dy).1 (crP ax ay bx by_ cx cy dx dy).2 = true := by
  obtain ⟨hn, -, -⟩ := (crE_cases _ _ _ _ _ _ _ _).1 h
  obtain ⟨e1, e2, e3, e4⟩ := on_ends hn
  unfold crP
  rw [if_pos h]
  unfold anyOn at o
  by_cases o1 : onF cx cy dx dy ax ay = true
  · rw [if_pos o1]; exact ⟨e1, o1⟩
  · rw [if_neg o1]
    by_cases o2 : onF cx cy dx dy bx by_ = true
    · rw [if_pos o2]; exact ⟨e2, o2⟩
    · rw [if_neg o2]
      by_cases o3 : onF ax ay bx by_ cx cy = true
      · rw [if_pos o3]; exact ⟨o3, e3⟩
      · rw [if_neg o3]
        by_cases o4 : onF ax ay bx by_ dx dy = true
        · rw [if_pos o4]; exact ⟨o4, e4⟩
        · rcases o with o | o | o | o
          · exact absurd o o1
          · exact absurd o o2
          · exact absurd o o3
          · exact absurd o o4
theorem rnd_neg_neg (x m : Int) (h : m ≠ 0) : rnd (-x) (-m) = rnd x m := by
  unfold rnd
  rw [show 2 * -x + -m = -(2 * x + m) by omega, show 2 * -m = -(2 * m) by omega, fl_neg_neg _ _ (by omega)]
theorem rnd_add (x m k : Int) (h : m ≠ 0) : k + rnd x m = rnd (x + m * k) m := by
  unfold rnd
  rw [show 2 * (x + m * k) + m = 2 * x + m + 2 * m * k by grind, fl_add _ _ _ (by omega)]
  omega
theorem crP_mid {ax ay bx by_ cx cy dx dy : Int} (h : crE ax ay bx by_ cx cy dx dy = 0) (o : ¬ anyOn ax ay bx by_ cx cy dx dy) :
    cr ax ay bx by_ cx cy dx dy ≠ 0 ∧ crP ax ay bx by_ cx cy dx dy = (rnd ((bx - ax) * cr ax ay cx cy cx cy dx dy + cr ax ay bx by_ cx cy dx dy * ax) (cr ax ay bx by_ cx cy dx dy), rnd ((by_ - ay) * cr ax ay cx cy cx cy dx dy + cr ax ay bx by_ cx cy dx dy * ay) (cr ax ay bx by_ cx cy dx dy)) := by
  obtain ⟨hn, h0, h2⟩ := (crE_cases _ _ _ _ _ _ _ _).1 h
  have hm := (cross_mid hn h0 h2 o).1
  refine ⟨hm, ?_⟩
  unfold anyOn at o
  unfold crP
  rw [if_pos h, if_neg (fun g => o (.inl g)), if_neg (fun g => o (.inr (.inl g))), if_neg (fun g => o (.inr (.inr (.inl g)))), if_neg (fun g => o (.inr (.inr (.inr g)))), rnd_add _ _ _ hm, rnd_add _ _ _ hm]
theorem crE_comm (ax ay bx by_ cx cy dx dy : Int) : crE cx cy dx dy ax ay bx by_ = crE ax ay bx by_ cx cy dx dy ∧ crE bx by_ ax ay cx cy dx dy = crE ax ay bx by_ cx cy dx dy ∧ crE ax ay bx by_ dx dy cx cy = crE ax ay bx by_ cx cy dx dy := by
  obtain ⟨p1, p2, p3⟩ := near_perm4 ax ay bx by_ cx cy dx dy
  unfold crE
  refine ⟨?_, ?_, ?_⟩
  · rw [p3, mt_comm]
  · rw [p2, mt_flip]
  · rw [p1, ← mt_comm ax ay bx by_ dx dy cx cy, mt_flip, mt_comm]
theorem crP_same {ax ay bx by_ cx cy dx dy px py qx qy rx ry sx sy : Int} (hE : crE px py qx qy rx ry sx sy = crE ax ay bx by_ cx cy dx dy) (hO : anyOn px py qx qy rx ry sx sy ↔ anyOn ax ay bx by_ cx cy dx dy)
    (hon : ∀ x y, onF px py qx qy x y = true ∧ onF rx ry sx sy x y = true → onF ax ay bx by_ x y = true ∧ onF cx cy dx dy x y = true)
    (hx : cr ax ay bx by_ cx cy dx dy ≠ 0 → rnd ((qx - px) * cr px py rx ry rx ry sx sy + cr px py qx qy rx ry sx sy * px) (cr px py qx qy rx ry sx sy) = rnd ((bx - ax) * cr ax ay cx cy cx cy dx dy + cr ax ay bx by_ cx cy dx dy * ax) (cr ax ay bx by_ cx cy dx dy))
    (hy : cr ax ay bx by_ cx cy dx dy ≠ 0 → rnd ((qy - py) * cr px py rx ry rx ry sx sy + cr px py qx qy rx ry sx sy * py) (cr px py qx qy rx ry sx sy) = rnd ((by_ - ay) * cr ax ay cx cy cx cy dx dy + cr ax ay bx by_ cx cy dx dy * ay) (cr ax ay bx by_ cx cy dx dy)) :
    crP px py qx qy rx ry sx sy = crP ax ay bx by_ cx cy dx dy := by
  by_cases h : crE ax ay bx by_ cx cy dx dy = 0
  · obtain ⟨hn, h0, h2⟩ := (crE_cases _ _ _ _ _ _ _ _).1 h
    by_cases o : anyOn ax ay bx by_ cx cy dx dy
    · obtain ⟨o1, o2⟩ := crP_on h o
      obtain ⟨o3, o4⟩ := hon _ _ (crP_on (hE.trans h) (hO.2 o))
      exact (cross_uniq hn h0 h2 o1 o2 o3 o4).symm
    · obtain ⟨hm, e⟩ := crP_mid h o
      obtain ⟨-, e'⟩ := crP_mid (hE.trans h) (fun g => o (hO.1 g))
      rw [e, e', hx hm, hy hm]
  · unfold crP
    rw [if_neg h, if_neg (fun g => h (hE.symm.trans g))]
theorem crP_comm (ax ay bx by_ cx cy dx dy : Int) : crP cx cy dx dy ax ay bx by_ = crP ax ay bx by_ cx cy dx dy ∧ crP bx by_ ax ay cx cy dx dy = crP ax ay bx by_ cx cy dx dy ∧ crP ax ay bx by_ dx dy cx cy = crP ax ay bx by_ cx cy dx dy := by
  obtain ⟨e1, e2, e3⟩ := crE_comm ax ay bx by_ cx cy dx dy
  refine ⟨crP_same e1 ?_ (fun x y h => ⟨h.2, h.1⟩) ?_ ?_, crP_same e2 ?_ (fun x y h => ⟨by rw [← on_back]; exact h.1, h.2⟩) ?_ ?_, crP_same e3 ?_ (fun x y h => ⟨h.1, by rw [← on_back]; exact h.2⟩) ?_ ?_⟩
  · unfold anyOn
    constructor
    · rintro (o | o | o | o)
      · exact .inr (.inr (.inl o))
      · exact .inr (.inr (.inr o))
      · exact .inl o
      · exact .inr (.inl o)
    · rintro (o | o | o | o)
      · exact .inr (.inr (.inl o))
      · exact .inr (.inr (.inr o))
      · exact .inl o
      · exact .inr (.inl o)
  · intro h
    rw [← rnd_neg_neg _ _ h]
    congr 1 <;> (unfold cr; grind)
  · intro h
    rw [← rnd_neg_neg _ _ h]
    congr 1 <;> (unfold cr; grind)
  · unfold anyOn
    rw [on_back ax ay bx by_ cx cy, on_back ax ay bx by_ dx dy]
    constructor
    · rintro (o | o | o | o)
      · exact .inr (.inl o)
      · exact .inl o
      · exact .inr (.inr (.inl o))
      · exact .inr (.inr (.inr o))
    · rintro (o | o | o | o)
      · exact .inr (.inl o)
      · exact .inl o
      · exact .inr (.inr (.inl o))
      · exact .inr (.inr (.inr o))
  · intro h
    rw [← rnd_neg_neg _ _ h]
    congr 1 <;> (unfold cr; grind)
  · intro h
    rw [← rnd_neg_neg _ _ h]
    congr 1 <;> (unfold cr; grind)
  · unfold anyOn
    rw [on_back cx cy dx dy ax ay, on_back cx cy dx dy bx by_]
    constructor
    · rintro (o | o | o | o)
      · exact .inl o
      · exact .inr (.inl o)
      · exact .inr (.inr (.inr o))
      · exact .inr (.inr (.inl o))
    · rintro (o | o | o | o)
      · exact .inl o
      · exact .inr (.inl o)
      · exact .inr (.inr (.inr o))
      · exact .inr (.inr (.inl o))
  · intro h
    rw [← rnd_neg_neg _ _ h]
    congr 1 <;> (unfold cr; grind)
  · intro h
    rw [← rnd_neg_neg _ _ h]
    congr 1 <;> (unfold cr; grind)
theorem b2i_two (b : Bool) : b2i b = 0 ∨ b2i b = 1 := by cases b <;> decide
theorem mt_three (ax ay bx by_ cx cy dx dy : Int) : mtF ax ay bx by_ cx cy dx dy = 0 ∨ mtF ax ay bx by_ cx cy dx dy = 1 ∨ mtF ax ay bx by_ cx cy dx dy = 2 := by
  rw [← rm_eq]
  unfold rmF
  split
  · split
    · exact .inl rfl
    · split
      · split
        · exact .inl rfl
        · exact sh_three _ _ _ _ _ _ _ _
      · rcases b2i_two (btN (cr ax ay bx by_ cx cy dx dy) (cr ax ay cx cy cx cy dx dy) && btN (cr ax ay bx by_ cx cy dx dy) (cr ax ay cx cy ax ay bx by_)) with h | h
        · exact .inl h
        · exact .inr (.inl h)
  · exact .inl rfl
/-- the cases of Cross: near, Meet, the four tests; the error and the point -/
def CrCase (n : Bool) (t : Int) (o1 o2 o3 o4 : Bool) (E X Y ax ay bx by_ cx cy dx dy mx my : Int) : Prop :=
  (n = false ∧ E = 2 ∧ X = 0 ∧ Y = 0) ∨ (n = true ∧ t = 0 ∧ E = 7 ∧ X = 0 ∧ Y = 0) ∨ (n = true ∧ t = 2 ∧ E = 1 ∧ X = 0 ∧ Y = 0) ∨
  (n = true ∧ t = 1 ∧ o1 = true ∧ E = 0 ∧ X = ax ∧ Y = ay) ∨ (n = true ∧ t = 1 ∧ o1 = false ∧ o2 = true ∧ E = 0 ∧ X = bx ∧ Y = by_) ∨
  (n = true ∧ t = 1 ∧ o1 = false ∧ o2 = false ∧ o3 = true ∧ E = 0 ∧ X = cx ∧ Y = cy) ∨ (n = true ∧ t = 1 ∧ o1 = false ∧ o2 = false ∧ o3 = false ∧ o4 = true ∧ E = 0 ∧ X = dx ∧ Y = dy) ∨
  (n = true ∧ t = 1 ∧ o1 = false ∧ o2 = false ∧ o3 = false ∧ o4 = false ∧ E = 0 ∧ X = mx ∧ Y = my ∧ cr ax ay bx by_ cx cy dx dy ≠ 0 ∧
    ((0 ≤ cr ax ay cx cy cx cy dx dy ∧ cr ax ay cx cy cx cy dx dy ≤ cr ax ay bx by_ cx cy dx dy) ∨ (cr ax ay bx by_ cx cy dx dy ≤ cr ax ay cx cy cx cy dx dy ∧ cr ax ay cx cy cx cy dx dy ≤ 0)))
theorem cr_cases (ax ay bx by_ cx cy dx dy : Int) : CrCase (nearL [(ax, ay), (bx, by_), (cx, cy), (dx, dy)]) (mtF ax ay bx by_ cx cy dx dy) (onF cx cy dx dy ax ay) (onF cx cy dx dy bx by_) (onF ax ay bx by_ cx cy) (onF ax ay bx by_ dx dy)
    (crE ax ay bx by_ cx cy dx dy) (crP ax ay bx by_ cx cy dx dy).1 (crP ax ay bx by_ cx cy dx dy).2 ax ay bx by_ cx cy dx dy
    (ax + rnd ((bx - ax) * cr ax ay cx cy cx cy dx dy) (cr ax ay bx by_ cx cy dx dy)) (ay + rnd ((by_ - ay) * cr ax ay cx cy cx cy dx dy) (cr ax ay bx by_ cx cy dx dy)) := by
  unfold CrCase
  by_cases hn : nearL [(ax, ay), (bx, by_), (cx, cy), (dx, dy)] = true
  · rcases mt_three ax ay bx by_ cx cy dx dy with ht | ht | ht
    · have e : crE ax ay bx by_ cx cy dx dy = 7 := by unfold crE; rw [if_pos hn, if_pos ht]
      unfold crP
      rw [e, if_neg (by omega)]
      exact .inr (.inl ⟨hn, ht, rfl, rfl, rfl⟩)
    · have e : crE ax ay bx by_ cx cy dx dy = 0 := (crE_cases _ _ _ _ _ _ _ _).2 ⟨hn, by omega, by omega⟩
      have hmid := cross_mid hn (by omega) (by omega)
      unfold crP
      rw [if_pos e, e]
      right; right; right
      cases o1 : onF cx cy dx dy ax ay
      · right
        cases o2 : onF cx cy dx dy bx by_
        · right
          cases o3 : onF ax ay bx by_ cx cy
          · right
            cases o4 : onF ax ay bx by_ dx dy
            · right
              refine ⟨hn, ht, rfl, rfl, rfl, rfl, rfl, ?_, ?_, hmid (by simp [o1, o2, o3, o4])⟩ <;> simp
            · left; exact ⟨hn, ht, rfl, rfl, rfl, rfl, rfl, by simp, by simp⟩
          · left; exact ⟨hn, ht, rfl, rfl, rfl, rfl, by simp, by simp⟩
        · left; exact ⟨hn, ht, rfl, rfl, rfl, by simp, by simp⟩
      · left; exact ⟨hn, ht, rfl, rfl, by simp, by simp⟩
    · have e : crE ax ay bx by_ cx cy dx dy = 1 := by unfold crE; rw [if_pos hn, if_neg (by omega), if_pos ht]
      unfold crP
      rw [e, if_neg (by omega)]
      exact .inr (.inr (.inl ⟨hn, ht, rfl, rfl, rfl⟩))
  · have e : crE ax ay bx by_ cx cy dx dy = 2 := by unfold crE; rw [if_neg hn]
    unfold crP
    rw [e, if_neg (by omega)]
    exact .inl ⟨by simpa using hn, rfl, rfl, rfl⟩
/-- the cases with a near input and Meet 1 -/
theorem crc_one {o1 o2 o3 o4 : Bool} {E X Y ax ay bx by_ cx cy dx dy mx my : Int} (h : CrCase true 1 o1 o2 o3 o4 E X Y ax ay bx by_ cx cy dx dy mx my) : E = 0 ∧
    (o1 = true → X = ax ∧ Y = ay) ∧ (o1 = false → o2 = true → X = bx ∧ Y = by_) ∧ (o1 = false → o2 = false → o3 = true → X = cx ∧ Y = cy) ∧ (o1 = false → o2 = false → o3 = false → o4 = true → X = dx ∧ Y = dy) ∧
    (o1 = false → o2 = false → o3 = false → o4 = false → X = mx ∧ Y = my ∧ cr ax ay bx by_ cx cy dx dy ≠ 0 ∧
      ((0 ≤ cr ax ay cx cy cx cy dx dy ∧ cr ax ay cx cy cx cy dx dy ≤ cr ax ay bx by_ cx cy dx dy) ∨ (cr ax ay bx by_ cx cy dx dy ≤ cr ax ay cx cy cx cy dx dy ∧ cr ax ay cx cy cx cy dx dy ≤ 0))) := by
  unfold CrCase at h
  rcases h with h | h | h | h | h | h | h | h
  · exact absurd h.1 (by decide)
  · exact absurd h.2.1 (by decide)
  · exact absurd h.2.1 (by decide)
  · obtain ⟨-, -, rfl, rfl, rfl, rfl⟩ := h; simp
  · obtain ⟨-, -, rfl, rfl, rfl, rfl, rfl⟩ := h; simp
  · obtain ⟨-, -, rfl, rfl, rfl, rfl, rfl, rfl⟩ := h; simp
  · obtain ⟨-, -, rfl, rfl, rfl, rfl, rfl, rfl, rfl⟩ := h; simp
  · obtain ⟨-, -, rfl, rfl, rfl, rfl, rfl, rfl, rfl, h1, h2⟩ := h; exact ⟨rfl, by simp, by simp, by simp, by simp, fun _ _ _ _ => ⟨rfl, rfl, h1, h2⟩⟩
theorem crc_near {n : Bool} {t : Int} {o1 o2 o3 o4 : Bool} {E X Y ax ay bx by_ cx cy dx dy mx my : Int} (h : CrCase n t o1 o2 o3 o4 E X Y ax ay bx by_ cx cy dx dy mx my) :
    (n = false ∧ E = 2 ∧ X = 0 ∧ Y = 0) ∨ (n = true ∧ t = 0 ∧ E = 7 ∧ X = 0 ∧ Y = 0) ∨ (n = true ∧ t = 2 ∧ E = 1 ∧ X = 0 ∧ Y = 0) ∨ (n = true ∧ t = 1) := by
  unfold CrCase at h
  rcases h with h | h | h | h | h | h | h | h
  · exact .inl h
  · exact .inr (.inl h)
  · exact .inr (.inr (.inl h))
  all_goals exact .inr (.inr (.inr ⟨h.1, h.2.1⟩))
end Go.Proofs.Ytpdiojndfckmfaa.Cut
