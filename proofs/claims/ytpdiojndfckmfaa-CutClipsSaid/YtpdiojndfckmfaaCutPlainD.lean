/- Plain words for layer cut: clipping. No program in sight. -/
import Derived.Test.YtpdiojndfckmfaaCutBase
import Derived.Test.YtpdiojndfckmfaaCutPlainC
set_option linter.unusedVariables false
namespace Go.Proofs.Ytpdiojndfckmfaa.Cut
open Num Geo
/-- fractions compared by their products -/
theorem fle_trans {n1 d1 n2 d2 n3 d3 : Int} (h1 : 0 < d1) (h2 : 0 < d2) (h3 : 0 < d3) (a : n1 * d2 ≤ n2 * d1) (b : n2 * d3 ≤ n3 * d2) : n1 * d3 ≤ n3 * d1 := by
  have e1 : n1 * d2 * d3 ≤ n2 * d1 * d3 := Int.mul_le_mul_of_nonneg_right a (by omega)
  have e2 : n2 * d3 * d1 ≤ n3 * d2 * d1 := Int.mul_le_mul_of_nonneg_right b (by omega)
  have e3 : d2 * (n1 * d3) ≤ d2 * (n3 * d1) := by
    rw [show d2 * (n1 * d3) = n1 * d2 * d3 by grind, show d2 * (n3 * d1) = n3 * d2 * d1 by grind]
    rw [show n2 * d1 * d3 = n2 * d3 * d1 by grind] at e1
    omega
  exact Int.le_of_mul_le_mul_left e3 h2
theorem rnd_le_iff {x d k : Int} (hd : 0 < d) : k ≤ rnd x d ↔ 0 ≤ 2 * x - (2 * k - 1) * d := by
  rw [le_rnd (by omega)]
  constructor
  · intro h
    apply Int.not_lt.1
    intro g
    have := Int.mul_neg_of_neg_of_pos g hd
    omega
  · intro h; exact Int.mul_nonneg h (by omega)
/-- the rounded product depends on the quotient alone -/
theorem rnd_val {w n d n' d' : Int} (hd : 0 < d) (hd' : 0 < d') (h : n * d' = n' * d) : rnd (w * n) d = rnd (w * n') d' := by
  have L : ∀ {n d n' d' k : Int}, 0 < d → 0 < d' → n * d' = n' * d → k ≤ rnd (w * n) d → k ≤ rnd (w * n') d' := by
    intro n d n' d' k hd hd' h g
    rw [rnd_le_iff hd] at g
    rw [rnd_le_iff hd']
    apply Int.not_lt.1
    intro l
    have h1 := Int.mul_nonneg g (show 0 ≤ d' by omega)
    have h2 := Int.mul_neg_of_neg_of_pos l hd
    have e : (2 * (w * n) - (2 * k - 1) * d) * d' = (2 * (w * n') - (2 * k - 1) * d') * d := by grind
    omega
  exact Int.le_antisymm (L hd hd' h (Int.le_refl _)) (L hd' hd h.symm (Int.le_refl _))
theorem rnd_lo {a w n d k : Int} (hd : 0 < d) (h : k * d ≤ a * d + w * n) : k ≤ a + rnd (w * n) d := by
  have : k - a ≤ rnd (w * n) d := by
    rw [rnd_le_iff hd]
    have e : (2 * (k - a) - 1) * d = 2 * (k * d) - 2 * (a * d) - d := by grind
    omega
  omega
theorem rnd_hi {a w n d k : Int} (hd : 0 < d) (h : a * d + w * n ≤ k * d) : a + rnd (w * n) d ≤ k := by
  apply Int.not_lt.1
  intro g
  have : k + 1 - a ≤ rnd (w * n) d := by omega
  rw [rnd_le_iff hd] at this
  have e : (2 * (k + 1 - a) - 1) * d = 2 * (k * d) - 2 * (a * d) + d := by grind
  omega
theorem rnd_exact {w n d k : Int} (hd : 0 < d) (h : w * n = k * d) : rnd (w * n) d = k := by
  have h1 := rnd_lo (a := 0) (w := w) (n := n) (k := k) hd (by omega)
  have h2 := rnd_hi (a := 0) (w := w) (n := n) (k := k) hd (by omega)
  omega
/-- the place of a value on a way -/
def ins (s w v : Int) : Bool := decide (min s (s + w) ≤ v) && decide (v ≤ max s (s + w))
def rN (s w v : Int) : Int := if ins s w v = true then (if w < 0 then s - v else v - s) else if (v < s ↔ 0 < w) then -1 else 1
def rD (s w v : Int) : Int := if ins s w v = true then (if w < 0 then -w else w) else 1
theorem reach_cases (s w v : Int) (hw : w ≠ 0) :
    (ins s w v = true ∧ 0 < w ∧ s ≤ v ∧ v ≤ s + w ∧ rN s w v = v - s ∧ rD s w v = w) ∨
    (ins s w v = true ∧ w < 0 ∧ s + w ≤ v ∧ v ≤ s ∧ rN s w v = s - v ∧ rD s w v = -w) ∨
    (ins s w v = false ∧ 0 < w ∧ v < s ∧ rN s w v = -1 ∧ rD s w v = 1) ∨
    (ins s w v = false ∧ 0 < w ∧ s + w < v ∧ rN s w v = 1 ∧ rD s w v = 1) ∨
    (ins s w v = false ∧ w < 0 ∧ s < v ∧ rN s w v = -1 ∧ rD s w v = 1) ∨
    (ins s w v = false ∧ w < 0 ∧ v < s + w ∧ rN s w v = 1 ∧ rD s w v = 1) := by
  unfold rN rD
  cases h : ins s w v
  · have h' : ¬ (min s (s + w) ≤ v ∧ v ≤ max s (s + w)) := by
      intro g; unfold ins at h; simp [g.1, g.2] at h
    by_cases hp : 0 < w
    · by_cases hv : v < s
      · exact .inr (.inr (.inl ⟨rfl, hp, hv, by simp [hp, hv], by simp⟩))
      · exact .inr (.inr (.inr (.inl ⟨rfl, hp, by omega, by simp [hp, hv], by simp⟩)))
    · by_cases hv : v < s
      · exact .inr (.inr (.inr (.inr (.inr ⟨rfl, by omega, by omega, by simp [hp, hv], by simp⟩))))
      · exact .inr (.inr (.inr (.inr (.inl ⟨rfl, by omega, by omega, by simp [hp, hv], by simp⟩))))
  · unfold ins at h
    simp only [Bool.and_eq_true, decide_eq_true_eq] at h
    by_cases hp : 0 < w
    · exact .inl ⟨rfl, hp, by omega, by omega, by simp; omega, by simp; omega⟩
    · exact .inr (.inl ⟨rfl, by omega, by omega, by omega, by simp; omega, by simp; omega⟩)
/-- behind the value, seen along the way; ahead of it -/
def Aft (s w v n d : Int) : Prop := (0 < w ∧ v * d ≤ s * d + w * n) ∨ (w < 0 ∧ s * d + w * n ≤ v * d)
def Bef (s w v n d : Int) : Prop := (0 < w ∧ s * d + w * n ≤ v * d) ∨ (w < 0 ∧ v * d ≤ s * d + w * n)
theorem mul_le1 {w n d : Int} (hw : 0 ≤ w) (h0 : 0 ≤ n) (h : n ≤ d) : 0 ≤ w * n ∧ w * n ≤ w * d := ⟨Int.mul_nonneg hw h0, Int.mul_le_mul_of_nonneg_left h hw⟩
theorem mul_le2 {w n d : Int} (hw : w ≤ 0) (h0 : 0 ≤ n) (h : n ≤ d) : w * n ≤ 0 ∧ w * d ≤ w * n := ⟨Int.mul_nonpos_of_nonpos_of_nonneg hw h0, Int.mul_le_mul_of_nonpos_left hw h⟩
theorem mul_lt1 {a b d : Int} (hd : 0 < d) (h : a < b) : a * d < b * d := Int.mul_lt_mul_of_pos_right h hd
theorem mul_lle {a b d : Int} (hd : 0 < d) (h : a ≤ b) : a * d ≤ b * d := Int.mul_le_mul_of_nonneg_right h (by omega)
/-- what reach finds -/
theorem reach_in {s w v : Int} (hw : w ≠ 0) (h : ins s w v = true) : 0 < rD s w v ∧ 0 ≤ rN s w v ∧ rN s w v ≤ rD s w v ∧ s * rD s w v + w * rN s w v = v * rD s w v ∧
    (∀ n d, (Aft s w v n d ↔ rN s w v * d ≤ n * rD s w v) ∧ (Bef s w v n d ↔ n * rD s w v ≤ rN s w v * d)) := by
  unfold Aft Bef
  rcases reach_cases s w v hw with g | g | g | g | g | g
  · obtain ⟨-, g1, g2, g3, g4, g5⟩ := g
    rw [g4, g5]
    refine ⟨by omega, by omega, by omega, by grind, fun n d => ?_⟩
    have e : (v - s) * d = v * d - s * d := Int.sub_mul _ _ _
    rw [e, Int.mul_comm n w]
    constructor <;> constructor <;> intro k <;> omega
  · obtain ⟨-, g1, g2, g3, g4, g5⟩ := g
    rw [g4, g5]
    refine ⟨by omega, by omega, by omega, by grind, fun n d => ?_⟩
    have e : (s - v) * d = s * d - v * d := Int.sub_mul _ _ _
    have e2 : n * (-w) = -(w * n) := by grind
    rw [e, e2]
    constructor <;> constructor <;> intro k <;> omega
  all_goals exact absurd (h.symm.trans g.1) (by decide)
theorem reach_out {s w v : Int} (hw : w ≠ 0) (h : ins s w v = false) : (rN s w v = -1 ∨ rN s w v = 1) ∧
    (∀ n d, 0 < d → 0 ≤ n → n ≤ d → (Aft s w v n d ↔ rN s w v ≤ 0) ∧ (Bef s w v n d ↔ 0 < rN s w v)) := by
  unfold Aft Bef
  rcases reach_cases s w v hw with g | g | g | g | g | g
  · exact absurd (h.symm.trans g.1) (by decide)
  · exact absurd (h.symm.trans g.1) (by decide)
  · obtain ⟨-, g1, g2, g4, g5⟩ := g
    rw [g4]
    refine ⟨by omega, fun n d h1 h2 h3 => ?_⟩
    have e1 := mul_le1 (w := w) (by omega) h2 h3
    have e2 := mul_lt1 h1 g2
    constructor <;> constructor <;> intro k <;> omega
  · obtain ⟨-, g1, g2, g4, g5⟩ := g
    rw [g4]
    refine ⟨by omega, fun n d h1 h2 h3 => ?_⟩
    have e1 := mul_le1 (w := w) (by omega) h2 h3
    have e2 := mul_lt1 h1 g2
    rw [Int.add_mul] at e2
    constructor <;> constructor <;> intro k <;> omega
  · obtain ⟨-, g1, g2, g4, g5⟩ := g
    rw [g4]
    refine ⟨by omega, fun n d h1 h2 h3 => ?_⟩
    have e1 := mul_le2 (w := w) (by omega) h2 h3
    have e2 := mul_lt1 h1 g2
    constructor <;> constructor <;> intro k <;> omega
  · obtain ⟨-, g1, g2, g4, g5⟩ := g
    rw [g4]
    refine ⟨by omega, fun n d h1 h2 h3 => ?_⟩
    have e1 := mul_le2 (w := w) (by omega) h2 h3
    have e2 := mul_lt1 h1 g2
    rw [Int.add_mul] at e2
    constructor <;> constructor <;> intro k <;> omega
/-- the state of clipping: the first place, the last place, is there a part -/
structure St where
  n1 : Int
  d1 : Int
  x1 : Int
  y1 : Int
  n2 : Int
  d2 : Int
  x2 : Int
  y2 : Int
  ok : Bool
/-- the value is entered -/
def lim1 (S : St) (s w e X Y : Int) : St :=
  if ins s w e = true then (if S.n1 * rD s w e < rN s w e * S.d1 then { S with n1 := rN s w e, d1 := rD s w e, x1 := X, y1 := Y } else S)
  else { S with ok := S.ok && decide (rN s w e ≤ 0) }
/-- the value is left -/
def lim2 (S : St) (s w e X Y : Int) : St :=
  if ins s w e = true then (if rN s w e * S.d2 < S.n2 * rD s w e then { S with n2 := rN s w e, d2 := rD s w e, x2 := X, y2 := Y } else S)
  else { S with ok := S.ok && decide (0 < rN s w e) }
def lim (S : St) (s w f t : Int) (px py : Int → Int) : St :=
  if w = 0 ∨ t < f then { S with ok := S.ok && (decide (f ≤ s) && decide (s ≤ t)) }
  else lim2 (lim1 S s w (if w < 0 then t else f) (px (if w < 0 then t else f)) (py (if w < 0 then t else f))) s w (if w < 0 then f else t) (px (if w < 0 then f else t)) (py (if w < 0 then f else t))
/-- the fraction is in the part -/
def InS (S : St) (n d : Int) : Prop := S.ok = true ∧ S.n1 * d ≤ n * S.d1 ∧ n * S.d2 ≤ S.n2 * d
/-- the places are on the segment, with their points -/
def Good (S : St) (ax dx ay dy : Int) : Prop := 0 < S.d1 ∧ 0 ≤ S.n1 ∧ S.n1 ≤ S.d1 ∧ 0 < S.d2 ∧ 0 ≤ S.n2 ∧ S.n2 ≤ S.d2 ∧
  S.x1 = ax + rnd (dx * S.n1) S.d1 ∧ S.y1 = ay + rnd (dy * S.n1) S.d1 ∧ S.x2 = ax + rnd (dx * S.n2) S.d2 ∧ S.y2 = ay + rnd (dy * S.n2) S.d2
theorem lim1_in {S : St} {s w e X Y n d : Int} (hw : w ≠ 0) (hd1 : 0 < S.d1) (hd : 0 < d) (h0 : 0 ≤ n) (h : n ≤ d) : InS (lim1 S s w e X Y) n d ↔ InS S n d ∧ Aft s w e n d := by
  unfold lim1
  by_cases hi : ins s w e = true
  · obtain ⟨p1, p2, p3, p4, p5⟩ := reach_in hw hi
    have p6 := (p5 n d).1
    rw [if_pos hi, p6]
    split
    · rename_i hl
      unfold InS
      simp only
      constructor
      · rintro ⟨a, b, c⟩
        exact ⟨⟨a, fle_trans hd1 p1 hd (Int.le_of_lt hl) b, c⟩, b⟩
      · rintro ⟨⟨a, b, c⟩, g⟩; exact ⟨a, g, c⟩
    · rename_i hl
      constructor
      · intro g; exact ⟨g, fle_trans p1 hd1 hd (Int.not_lt.1 hl) g.2.1⟩
      · intro g; exact g.1
  · have hi' : ins s w e = false := by simpa using hi
    obtain ⟨p1, p2⟩ := reach_out hw hi'
    rw [if_neg hi, (p2 n d hd h0 h).1]
    unfold InS
    simp only [Bool.and_eq_true, decide_eq_true_eq]
    constructor
    · rintro ⟨⟨a, b⟩, c, g⟩; exact ⟨⟨a, c, g⟩, b⟩
    · rintro ⟨⟨a, c, g⟩, b⟩; exact ⟨⟨a, b⟩, c, g⟩
theorem lim2_in {S : St} {s w e X Y n d : Int} (hw : w ≠ 0) (hd2 : 0 < S.d2) (hd : 0 < d) (h0 : 0 ≤ n) (h : n ≤ d) : InS (lim2 S s w e X Y) n d ↔ InS S n d ∧ Bef s w e n d := by
  unfold lim2
  by_cases hi : ins s w e = true
  · obtain ⟨p1, p2, p3, p4, p5⟩ := reach_in hw hi
    have p6 := (p5 n d).2
    rw [if_pos hi, p6]
    split
    · rename_i hl
      unfold InS
      simp only
      constructor
      · rintro ⟨a, b, c⟩
        exact ⟨⟨a, b, fle_trans hd p1 hd2 c (Int.le_of_lt hl)⟩, c⟩
      · rintro ⟨⟨a, b, c⟩, g⟩; exact ⟨a, b, g⟩
    · rename_i hl
      constructor
      · intro g; exact ⟨g, fle_trans hd hd2 p1 g.2.2 (Int.not_lt.1 hl)⟩
      · intro g; exact g.1
  · have hi' : ins s w e = false := by simpa using hi
    obtain ⟨p1, p2⟩ := reach_out hw hi'
    rw [if_neg hi, (p2 n d hd h0 h).2]
    unfold InS
    simp only [Bool.and_eq_true, decide_eq_true_eq]
    constructor
    · rintro ⟨⟨a, b⟩, c, g⟩; exact ⟨⟨a, c, g⟩, b⟩
    · rintro ⟨⟨a, c, g⟩, b⟩; exact ⟨⟨a, b⟩, c, g⟩
theorem lim1_good {S : St} {s w e X Y ax dx ay dy : Int} (hw : w ≠ 0) (hg : Good S ax dx ay dy)
    (hp : ins s w e = true → X = ax + rnd (dx * rN s w e) (rD s w e) ∧ Y = ay + rnd (dy * rN s w e) (rD s w e)) : Good (lim1 S s w e X Y) ax dx ay dy := by
  unfold lim1
  by_cases hi : ins s w e = true
  · obtain ⟨p1, p2, p3, p4, p5⟩ := reach_in hw hi
    rw [if_pos hi]
    split
    · obtain ⟨g1, g2, g3, g4, g5, g6, g7, g8, g9, g10⟩ := hg
      exact ⟨p1, p2, p3, g4, g5, g6, (hp hi).1, (hp hi).2, g9, g10⟩
    · exact hg
  · rw [if_neg hi]; exact hg
theorem lim2_good {S : St} {s w e X Y ax dx ay dy : Int} (hw : w ≠ 0) (hg : Good S ax dx ay dy)
    (hp : ins s w e = true → X = ax + rnd (dx * rN s w e) (rD s w e) ∧ Y = ay + rnd (dy * rN s w e) (rD s w e)) : Good (lim2 S s w e X Y) ax dx ay dy := by
  unfold lim2
  by_cases hi : ins s w e = true
  · obtain ⟨p1, p2, p3, p4, p5⟩ := reach_in hw hi
    rw [if_pos hi]
    split
    · obtain ⟨g1, g2, g3, g4, g5, g6, g7, g8, g9, g10⟩ := hg
      exact ⟨g1, g2, g3, p1, p2, p3, g7, g8, (hp hi).1, (hp hi).2⟩
    · exact hg
  · rw [if_neg hi]; exact hg
theorem lim_good {S : St} {s w f t ax dx ay dy : Int} {px py : Int → Int} (hg : Good S ax dx ay dy)
    (hp : ∀ e, w ≠ 0 → ins s w e = true → px e = ax + rnd (dx * rN s w e) (rD s w e) ∧ py e = ay + rnd (dy * rN s w e) (rD s w e)) : Good (lim S s w f t px py) ax dx ay dy := by
  unfold lim
  by_cases hc : w = 0 ∨ t < f
  · rw [if_pos hc]; exact hg
  · rw [if_neg hc]
    exact lim2_good (by omega) (lim1_good (by omega) hg (hp _ (by omega))) (hp _ (by omega))
theorem lim_in {S : St} {s w f t n d ax dx ay dy : Int} {px py : Int → Int} (hg : Good S ax dx ay dy)
    (hp : ∀ e, w ≠ 0 → ins s w e = true → px e = ax + rnd (dx * rN s w e) (rD s w e) ∧ py e = ay + rnd (dy * rN s w e) (rD s w e))
    (hd : 0 < d) (h0 : 0 ≤ n) (h : n ≤ d) : InS (lim S s w f t px py) n d ↔ InS S n d ∧ f * d ≤ s * d + w * n ∧ s * d + w * n ≤ t * d := by
  unfold lim
  by_cases hc : w = 0 ∨ t < f
  · rw [if_pos hc]
    unfold InS
    simp only [Bool.and_eq_true, decide_eq_true_eq]
    have e : (f ≤ s ∧ s ≤ t) ↔ (f * d ≤ s * d + w * n ∧ s * d + w * n ≤ t * d) := by
      by_cases hw : w = 0
      · subst hw
        rw [Int.zero_mul, Int.add_zero]
        exact ⟨fun g => ⟨mul_lle hd g.1, mul_lle hd g.2⟩, fun g => ⟨Int.le_of_mul_le_mul_right g.1 hd, Int.le_of_mul_le_mul_right g.2 hd⟩⟩
      · have htf : t < f := by omega
        have := mul_lt1 hd htf
        constructor <;> intro g <;> omega
    rw [← e]
    constructor
    · rintro ⟨⟨a, b⟩, c, g⟩; exact ⟨⟨a, c, g⟩, b⟩
    · rintro ⟨⟨a, c, g⟩, b⟩; exact ⟨⟨a, b⟩, c, g⟩
  · have hw : w ≠ 0 := by omega
    have hg1 := lim1_good (e := if w < 0 then t else f) hw hg (hp _ hw)
    rw [if_neg hc, lim2_in hw hg1.2.2.2.1 hd h0 h, lim1_in hw hg.1 hd h0 h]
    unfold Aft Bef
    by_cases hn : w < 0
    · simp only [if_pos hn]
      constructor
      · rintro ⟨⟨a, b⟩, c⟩; exact ⟨a, by omega, by omega⟩
      · rintro ⟨a, b, c⟩; exact ⟨⟨a, by omega⟩, by omega⟩
    · simp only [if_neg hn]
      constructor
      · rintro ⟨⟨a, b⟩, c⟩; exact ⟨a, by omega, by omega⟩
      · rintro ⟨a, b, c⟩; exact ⟨⟨a, by omega⟩, by omega⟩
/-- clipping -/
def St0 (ax ay bx by_ : Int) : St := ⟨0, 1, ax, ay, 1, 1, bx, by_, true⟩
def clS (ax ay bx by_ x0 y0 x1 y1 : Int) : St :=
  lim (lim (St0 ax ay bx by_) ax (bx - ax) x0 x1 (fun v => v) (fun v => atV ax ay bx by_ v)) ay (by_ - ay) y0 y1 (fun v => atV ay ax by_ bx v) (fun v => v)
/-- what Clip returns: two points, and whether there is a part -/
def stO (S : St) : Bool := S.ok && !decide (S.n2 * S.d1 < S.n1 * S.d2)
def clO (ax ay bx by_ x0 y0 x1 y1 : Int) : Bool := nearL [(ax, ay), (bx, by_)] && stO (clS ax ay bx by_ x0 y0 x1 y1)
def clV (o : Bool) (x : Int) : Int := if o = true then x else 0
/-- the point of the segment with that fraction is in the box -/
def Bxd (ax ay bx by_ x0 y0 x1 y1 n d : Int) : Prop :=
  (x0 * d ≤ ax * d + (bx - ax) * n ∧ ax * d + (bx - ax) * n ≤ x1 * d) ∧ (y0 * d ≤ ay * d + (by_ - ay) * n ∧ ay * d + (by_ - ay) * n ≤ y1 * d)
/-- the part of a segment within a box: the points of its first and its last fraction -/
def Part (ax ay bx by_ x0 y0 x1 y1 : Int) (o : Bool) (cx cy dx dy : Int) : Prop :=
  (o = false ∧ cx = 0 ∧ cy = 0 ∧ dx = 0 ∧ dy = 0 ∧ ∀ n d : Int, 0 < d → 0 ≤ n → n ≤ d → ¬ Bxd ax ay bx by_ x0 y0 x1 y1 n d) ∨
  (o = true ∧ ∃ n1 d1 n2 d2 : Int, 0 < d1 ∧ 0 ≤ n1 ∧ n1 ≤ d1 ∧ 0 < d2 ∧ 0 ≤ n2 ∧ n2 ≤ d2 ∧ n1 * d2 ≤ n2 * d1 ∧
    (∀ n d : Int, 0 < d → 0 ≤ n → n ≤ d → (Bxd ax ay bx by_ x0 y0 x1 y1 n d ↔ n1 * d ≤ n * d1 ∧ n * d2 ≤ n2 * d)) ∧
    cx = ax + rnd ((bx - ax) * n1) d1 ∧ cy = ay + rnd ((by_ - ay) * n1) d1 ∧ dx = ax + rnd ((bx - ax) * n2) d2 ∧ dy = ay + rnd ((by_ - ay) * n2) d2)
theorem at_ins {ax ay bx by_ v : Int} (hn : nearL [(ax, ay), (bx, by_)] = true) (hw : bx - ax ≠ 0) (hi : ins ax (bx - ax) v = true) :
    v = ax + rnd ((bx - ax) * rN ax (bx - ax) v) (rD ax (bx - ax) v) ∧ atV ax ay bx by_ v = ay + rnd ((by_ - ay) * rN ax (bx - ax) v) (rD ax (bx - ax) v) := by
  obtain ⟨p1, p2, p3, p4, p5⟩ := reach_in hw hi
  constructor
  · have e : (bx - ax) * rN ax (bx - ax) v = (v - ax) * rD ax (bx - ax) v := by
      rw [Int.sub_mul v]
      generalize (bx - ax) * rN ax (bx - ax) v = z at *
      omega
    rw [rnd_exact (k := v - ax) p1 e]; omega
  · rcases reach_cases ax (bx - ax) v hw with g | g | g | g | g | g
    · obtain ⟨-, g1, g2, g3, g4, g5⟩ := g
      have : atE ax ay bx by_ v = 0 := by unfold atE; rw [if_pos hn, if_neg (by omega), if_neg (by omega)]
      unfold atV
      rw [if_pos this, g4, g5]; rfl
    · obtain ⟨-, g1, g2, g3, g4, g5⟩ := g
      have : atE ax ay bx by_ v = 0 := by unfold atE; rw [if_pos hn, if_neg (by omega), if_neg (by omega)]
      unfold atV
      rw [if_pos this, g4, g5]
      unfold atR
      rw [← rnd_neg_neg _ _ hw, show -((by_ - ay) * (v - ax)) = (by_ - ay) * (ax - v) by grind]
    all_goals exact absurd (hi.symm.trans g.1) (by decide)
theorem near_turn (ax ay bx by_ : Int) : nearL [(ay, ax), (by_, bx)] = nearL [(ax, ay), (bx, by_)] := by
  unfold nearL nearP
  simp [Bool.and_comm, Bool.and_assoc, Bool.and_left_comm]
theorem rnd_zero {d : Int} (hd : 0 < d) (w : Int) : rnd (w * 0) d = 0 := rnd_exact hd (by omega)
theorem rnd_whole {d : Int} (hd : 0 < d) (w : Int) : rnd (w * d) d = w := rnd_exact hd rfl
theorem st0_good (ax ay bx by_ : Int) : Good (St0 ax ay bx by_) ax (bx - ax) ay (by_ - ay) := by
  refine ⟨?_, ?_, ?_, ?_, ?_, ?_, ?_, ?_, ?_, ?_⟩ <;> unfold St0 <;> simp only
  · decide
  · decide
  · decide
  · decide
  · decide
  · decide
  · rw [rnd_zero (by decide)]; omega
  · rw [rnd_zero (by decide)]; omega
  · rw [rnd_whole (by decide)]; omega
  · rw [rnd_whole (by decide)]; omega
theorem clip_part (ax ay bx by_ x0 y0 x1 y1 : Int) (hn : nearL [(ax, ay), (bx, by_)] = true) :
    Part ax ay bx by_ x0 y0 x1 y1 (clO ax ay bx by_ x0 y0 x1 y1) (clV (clO ax ay bx by_ x0 y0 x1 y1) (clS ax ay bx by_ x0 y0 x1 y1).x1) (clV (clO ax ay bx by_ x0 y0 x1 y1) (clS ax ay bx by_ x0 y0 x1 y1).y1)
      (clV (clO ax ay bx by_ x0 y0 x1 y1) (clS ax ay bx by_ x0 y0 x1 y1).x2) (clV (clO ax ay bx by_ x0 y0 x1 y1) (clS ax ay bx by_ x0 y0 x1 y1).y2) := by
  have hg0 := st0_good ax ay bx by_
  have hpx : ∀ e, bx - ax ≠ 0 → ins ax (bx - ax) e = true → (fun v : Int => v) e = ax + rnd ((bx - ax) * rN ax (bx - ax) e) (rD ax (bx - ax) e) ∧ (fun v => atV ax ay bx by_ v) e = ay + rnd ((by_ - ay) * rN ax (bx - ax) e) (rD ax (bx - ax) e) :=
    fun e hw hi => at_ins hn hw hi
  have hpy : ∀ e, by_ - ay ≠ 0 → ins ay (by_ - ay) e = true → (fun v => atV ay ax by_ bx v) e = ax + rnd ((bx - ax) * rN ay (by_ - ay) e) (rD ay (by_ - ay) e) ∧ (fun v : Int => v) e = ay + rnd ((by_ - ay) * rN ay (by_ - ay) e) (rD ay (by_ - ay) e) :=
    fun e hw hi => (at_ins (ax := ay) (ay := ax) (bx := by_) (by_ := bx) (by rw [near_turn]; exact hn) hw hi).symm
  have hg1 := lim_good (f := x0) (t := x1) hg0 hpx
  have hg2 := lim_good (f := y0) (t := y1) hg1 hpy
  have key : ∀ n d : Int, 0 < d → 0 ≤ n → n ≤ d → (InS (clS ax ay bx by_ x0 y0 x1 y1) n d ↔ Bxd ax ay bx by_ x0 y0 x1 y1 n d) := by
    intro n d hd h0 h
    unfold clS Bxd
    rw [lim_in hg1 hpy hd h0 h, lim_in hg0 hpx hd h0 h]
    have : InS (St0 ax ay bx by_) n d := by unfold InS St0; simp only; exact ⟨trivial, by omega, by omega⟩
    constructor
    · rintro ⟨⟨a, b⟩, c⟩; exact ⟨b, c⟩
    · rintro ⟨b, c⟩; exact ⟨⟨this, b⟩, c⟩
  have hgS : Good (clS ax ay bx by_ x0 y0 x1 y1) ax (bx - ax) ay (by_ - ay) := hg2
  unfold clO
  rw [hn, Bool.true_and]
  generalize clS ax ay bx by_ x0 y0 x1 y1 = S at *
  clear hg2 hg1 hg0 hpx hpy
  obtain ⟨g1, g2, g3, g4, g5, g6, g7, g8, g9, g10⟩ := hgS
  unfold InS at key
  cases hs : stO S
  · refine .inl ⟨rfl, rfl, rfl, rfl, rfl, fun n d hd h0 h hb => ?_⟩
    obtain ⟨a, b, c⟩ := (key n d hd h0 h).2 hb
    have := fle_trans g1 hd g4 b c
    unfold stO at hs
    rw [a] at hs
    simp at hs
    omega
  · unfold stO at hs
    simp at hs
    refine .inr ⟨rfl, S.n1, S.d1, S.n2, S.d2, g1, g2, g3, g4, g5, g6, hs.2, fun n d hd h0 h => ?_, g7, g8, g9, g10⟩
    rw [← key n d hd h0 h]
    exact ⟨fun g => g.2, fun g => ⟨hs.1, g⟩⟩
/-- there is one such part -/
theorem part_uniq {ax ay bx by_ x0 y0 x1 y1 : Int} {o o' : Bool} {cx cy dx dy cx' cy' dx' dy' : Int} (h : Part ax ay bx by_ x0 y0 x1 y1 o cx cy dx dy) (h' : Part ax ay bx by_ x0 y0 x1 y1 o' cx' cy' dx' dy') :
    o = o' ∧ cx = cx' ∧ cy = cy' ∧ dx = dx' ∧ dy = dy' := by
  rcases h with ⟨a1, a2, a3, a4, a5, a6⟩ | ⟨a1, n1, d1, n2, d2, a2, a3, a4, a5, a6, a7, a8, a9, a10, a11, a12, a13⟩ <;>
  rcases h' with ⟨b1, b2, b3, b4, b5, b6⟩ | ⟨b1, m1, e1, m2, e2, b2, b3, b4, b5, b6, b7, b8, b9, b10, b11, b12, b13⟩
  · subst a1 b1; exact ⟨rfl, by omega, by omega, by omega, by omega⟩
  · exact absurd ((b9 m1 e1 b2 b3 b4).2 ⟨Int.le_refl _, b8⟩) (a6 m1 e1 b2 b3 b4)
  · exact absurd ((a9 n1 d1 a2 a3 a4).2 ⟨Int.le_refl _, a8⟩) (b6 n1 d1 a2 a3 a4)
  · have k1 := (b9 n1 d1 a2 a3 a4).1 ((a9 n1 d1 a2 a3 a4).2 ⟨Int.le_refl _, a8⟩)
    have k2 := (a9 m1 e1 b2 b3 b4).1 ((b9 m1 e1 b2 b3 b4).2 ⟨Int.le_refl _, b8⟩)
    have k3 := (b9 n2 d2 a5 a6 a7).1 ((a9 n2 d2 a5 a6 a7).2 ⟨a8, Int.le_refl _⟩)
    have k4 := (a9 m2 e2 b5 b6 b7).1 ((b9 m2 e2 b5 b6 b7).2 ⟨b8, Int.le_refl _⟩)
    have q1 : n1 * e1 = m1 * d1 := by omega
    have q2 : n2 * e2 = m2 * d2 := by omega
    subst a1 b1
    rw [a10, a11, a12, a13, b10, b11, b12, b13, rnd_val a2 b2 q1, rnd_val a2 b2 q1, rnd_val a5 b5 q2, rnd_val a5 b5 q2]
    exact ⟨rfl, rfl, rfl, rfl, rfl⟩
theorem bxd_back (ax ay bx by_ x0 y0 x1 y1 n d : Int) : Bxd bx by_ ax ay x0 y0 x1 y1 n d ↔ Bxd ax ay bx by_ x0 y0 x1 y1 (d - n) d := by
  unfold Bxd
  rw [show ax * d + (bx - ax) * (d - n) = bx * d + (ax - bx) * n by grind, show ay * d + (by_ - ay) * (d - n) = by_ * d + (ay - by_) * n by grind]
theorem rnd_back {a b n d : Int} (hd : 0 < d) : b + rnd ((a - b) * n) d = a + rnd ((b - a) * (d - n)) d := by
  have e : (b - a) * (d - n) = (a - b) * n + d * (b - a) := by grind
  rw [e, ← rnd_add _ _ _ (by omega)]
  omega
/-- the part of the reversed segment -/
theorem part_back {ax ay bx by_ x0 y0 x1 y1 : Int} {o : Bool} {cx cy dx dy : Int} (h : Part ax ay bx by_ x0 y0 x1 y1 o cx cy dx dy) : Part bx by_ ax ay x0 y0 x1 y1 o dx dy cx cy := by
  rcases h with ⟨a1, a2, a3, a4, a5, a6⟩ | ⟨a1, n1, d1, n2, d2, a2, a3, a4, a5, a6, a7, a8, a9, a10, a11, a12, a13⟩
  · refine .inl ⟨a1, a4, a5, a2, a3, fun n d hd h0 h hb => ?_⟩
    exact a6 (d - n) d hd (by omega) (by omega) ((bxd_back ..).1 hb)
  · refine .inr ⟨a1, d2 - n2, d2, d1 - n1, d1, a5, by omega, by omega, a2, by omega, by omega, ?_, fun n d hd h0 h => ?_, ?_, ?_, ?_, ?_⟩
    · rw [Int.sub_mul, Int.sub_mul, Int.mul_comm d2 d1]; omega
    · rw [bxd_back, a9 (d - n) d hd (by omega) (by omega)]
      rw [Int.sub_mul, Int.sub_mul, Int.sub_mul, Int.sub_mul, Int.mul_comm d d1, Int.mul_comm d d2]
      constructor <;> intro g <;> omega
    · rw [a12, rnd_back (a := ax) (b := bx) a5, show d2 - (d2 - n2) = n2 by omega]
    · rw [a13, rnd_back (a := ay) (b := by_) a5, show d2 - (d2 - n2) = n2 by omega]
    · rw [a10, rnd_back (a := ax) (b := bx) a2, show d1 - (d1 - n1) = n1 by omega]
    · rw [a11, rnd_back (a := ay) (b := by_) a2, show d1 - (d1 - n1) = n1 by omega]
/-- the ends of the part are in the box -/
theorem part_in {ax ay bx by_ x0 y0 x1 y1 : Int} {cx cy dx dy : Int} (h : Part ax ay bx by_ x0 y0 x1 y1 true cx cy dx dy) :
    (x0 ≤ cx ∧ cx ≤ x1 ∧ y0 ≤ cy ∧ cy ≤ y1) ∧ (x0 ≤ dx ∧ dx ≤ x1 ∧ y0 ≤ dy ∧ dy ≤ y1) := by
  rcases h with ⟨a1, -⟩ | ⟨a1, n1, d1, n2, d2, a2, a3, a4, a5, a6, a7, a8, a9, a10, a11, a12, a13⟩
  · exact absurd a1 (by decide)
  · have k1 := (a9 n1 d1 a2 a3 a4).2 ⟨Int.le_refl _, a8⟩
    have k2 := (a9 n2 d2 a5 a6 a7).2 ⟨a8, Int.le_refl _⟩
    rw [a10, a11, a12, a13]
    exact ⟨⟨rnd_lo a2 k1.1.1, rnd_hi a2 k1.1.2, rnd_lo a2 k1.2.1, rnd_hi a2 k1.2.2⟩, ⟨rnd_lo a5 k2.1.1, rnd_hi a5 k2.1.2, rnd_lo a5 k2.2.1, rnd_hi a5 k2.2.2⟩⟩
/-- a segment whose ends are in the box -/
theorem part_whole {ax ay bx by_ x0 y0 x1 y1 : Int} {o : Bool} {cx cy dx dy : Int} (h : Part ax ay bx by_ x0 y0 x1 y1 o cx cy dx dy)
    (ha : x0 ≤ ax ∧ ax ≤ x1 ∧ y0 ≤ ay ∧ ay ≤ y1) (hb : x0 ≤ bx ∧ bx ≤ x1 ∧ y0 ≤ by_ ∧ by_ ≤ y1) : o = true ∧ cx = ax ∧ cy = ay ∧ dx = bx ∧ dy = by_ := by
  have B0 : Bxd ax ay bx by_ x0 y0 x1 y1 0 1 := by unfold Bxd; omega
  have B1 : Bxd ax ay bx by_ x0 y0 x1 y1 1 1 := by unfold Bxd; omega
  rcases h with ⟨a1, a2, a3, a4, a5, a6⟩ | ⟨a1, n1, d1, n2, d2, a2, a3, a4, a5, a6, a7, a8, a9, a10, a11, a12, a13⟩
  · exact absurd B0 (a6 0 1 (by decide) (by decide) (by decide))
  · have k1 := (a9 0 1 (by decide) (by decide) (by decide)).1 B0
    have k2 := (a9 1 1 (by decide) (by decide) (by decide)).1 B1
    have e1 : n1 = 0 := by omega
    have e2 : n2 = d2 := by omega
    subst e1 e2
    rw [a10, a11, a12, a13, rnd_zero a2, rnd_zero a2, rnd_whole a5, rnd_whole a5]
    exact ⟨a1, by omega, by omega, by omega, by omega⟩
end Go.Proofs.Ytpdiojndfckmfaa.Cut
