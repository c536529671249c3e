/- Several texts of layer cut in one (joined by cc.py). -/
import Derived.Test.YtpdiojndfckmfaaCutPlainD
import Derived.Test.YtpdiojndfckmfaaCutPlainE
import Derived.Test.YtpdiojndfckmfaaCutM
import Derived.Test.YtpdiojndfckmfaaNumD
import Derived.Test.YtpdiojndfckmfaaNumN
import Derived.Test.YtpdiojndfckmfaaCutWithin
section
set_option linter.unusedVariables false
namespace Go.Proofs.Ytpdiojndfckmfaa.Cut
open Num Geo
/-- the greater, the smaller of two fractions -/
def latN (n d n' d' : Int) : Int := if cmpF n d n' d' < 0 then n' else n
def latD (n d n' d' : Int) : Int := if cmpF n d n' d' < 0 then d' else d
def sooN (n d n' d' : Int) : Int := if 0 < cmpF n d n' d' then n' else n
def sooD (n d n' d' : Int) : Int := if 0 < cmpF n d n' d' then d' else d
def clamp (v : Int) : Int := min (max v (-4194304)) 4194304
/-- limits: the least and the greatest parameter, and whether there is none -/
structure Lm where
  a : Int
  b : Int
  c : Int
  d : Int
  no : Bool
/-- the two fractions at which a coordinate reaches the bounds, ordered -/
def loN (f t lo hi : Int) : Int := sooN (mkN (clamp lo - f) (t - f)) (mkD (clamp lo - f) (t - f)) (mkN (clamp hi - f) (t - f)) (mkD (clamp hi - f) (t - f))
def loD (f t lo hi : Int) : Int := sooD (mkN (clamp lo - f) (t - f)) (mkD (clamp lo - f) (t - f)) (mkN (clamp hi - f) (t - f)) (mkD (clamp hi - f) (t - f))
def hiN (f t lo hi : Int) : Int := latN (mkN (clamp lo - f) (t - f)) (mkD (clamp lo - f) (t - f)) (mkN (clamp hi - f) (t - f)) (mkD (clamp hi - f) (t - f))
def hiD (f t lo hi : Int) : Int := latD (mkN (clamp lo - f) (t - f)) (mkD (clamp lo - f) (t - f)) (mkN (clamp hi - f) (t - f)) (mkD (clamp hi - f) (t - f))
def btw (L : Lm) (f t lo hi : Int) : Lm :=
  if f = t then { L with no := (L.no || decide (f < clamp lo)) || decide (clamp hi < f) }
  else ⟨latN L.a L.b (loN f t lo hi) (loD f t lo hi), latD L.a L.b (loN f t lo hi) (loD f t lo hi), sooN L.c L.d (hiN f t lo hi) (hiD f t lo hi), sooD L.c L.d (hiN f t lo hi) (hiD f t lo hi), L.no⟩
/-- the point that at gives, by its cases -/
def AtC (ax ay bx by_ N D x0 x1 X Y : Int) : Prop :=
  (((bx - ax) * N).tmod D = 0 ∧ ((by_ - ay) * N).tmod D = 0 ∧ X = ax + ((bx - ax) * N).tdiv D ∧ Y = ay + ((by_ - ay) * N).tdiv D) ∨
  (((bx - ax) * N).tmod D = 0 ∧ ((by_ - ay) * N).tmod D ≠ 0 ∧ X = ax + ((bx - ax) * N).tdiv D ∧ (X = x0 ∨ X = x1) ∧ Y = atV ax ay bx by_ X) ∨
  (((bx - ax) * N).tmod D ≠ 0 ∧ Y = ay + ((by_ - ay) * N).tdiv D ∧ X = atV ay ax by_ bx Y)
theorem lat_cases (n d n' d' : Int) : (latN n d n' d' = n ∧ latD n d n' d' = d) ∨ (latN n d n' d' = n' ∧ latD n d n' d' = d') := by
  unfold latN latD; by_cases h : cmpF n d n' d' < 0 <;> simp [h]
theorem soo_cases (n d n' d' : Int) : (sooN n d n' d' = n ∧ sooD n d n' d' = d) ∨ (sooN n d n' d' = n' ∧ sooD n d n' d' = d') := by
  unfold sooN sooD; by_cases h : 0 < cmpF n d n' d' <;> simp [h]
theorem lat_i64 {n d n' d' : Int} (h1 : I64 n) (h2 : I64 d) (h3 : I64 n') (h4 : I64 d') : I64 (latN n d n' d') ∧ I64 (latD n d n' d') := by
  rcases lat_cases n d n' d' with ⟨a, b⟩ | ⟨a, b⟩ <;> rw [a, b]
  · exact ⟨h1, h2⟩
  · exact ⟨h3, h4⟩
theorem soo_i64 {n d n' d' : Int} (h1 : I64 n) (h2 : I64 d) (h3 : I64 n') (h4 : I64 d') : I64 (sooN n d n' d') ∧ I64 (sooD n d n' d') := by
  rcases soo_cases n d n' d' with ⟨a, b⟩ | ⟨a, b⟩ <;> rw [a, b]
  · exact ⟨h1, h2⟩
  · exact ⟨h3, h4⟩
theorem clamp_in (v : Int) : -4194304 ≤ clamp v ∧ clamp v ≤ 4194304 := by unfold clamp; omega
theorem mk_small {a b : Int} (ha : -8388608 ≤ a ∧ a ≤ 8388608) (hb : -8388608 ≤ b ∧ b ≤ 8388608) (h0 : b ≠ 0) :
    mkE a b = 0 ∧ (-8388608 ≤ mkN a b ∧ mkN a b ≤ 8388608) ∧ (0 < mkD a b ∧ mkD a b ≤ 8388608) := by
  have h := mkE_small h0 (a := a) (by omega) (by omega) (by omega) (by omega)
  obtain ⟨-, e1, e2, e3⟩ := mk_parts h
  have hu := upq_le a b
  have hl := loq_le a b
  have hp := (mk_eq h).2
  exact ⟨h, by omega, by omega⟩
end Go.Proofs.Ytpdiojndfckmfaa.Cut
end
section
set_option linter.unusedVariables false
namespace Go.Proofs.Ytpdiojndfckmfaa.Cut
open Num Geo
theorem cmp_lt {n d n' d' : Int} (h : vld n d = true) (h' : vld n' d' = true) : (cmpF n d n' d' < 0 ↔ n * d' < n' * d) ∧ (0 < cmpF n d n' d' ↔ n' * d < n * d') := by
  unfold cmpF sgnI
  rw [if_pos ⟨h, h'⟩]
  repeat' split
  all_goals constructor <;> constructor <;> intro g <;> omega
/-- the greater of two fractions, in comparisons -/
theorem lat_le {n d n' d' m e : Int} (h : vld n d = true) (h' : vld n' d' = true) (he : 0 < e) : (latN n d n' d' * e ≤ m * latD n d n' d' ↔ n * e ≤ m * d ∧ n' * e ≤ m * d') ∧ (m * latD n d n' d' ≤ latN n d n' d' * e ↔ m * d ≤ n * e ∨ m * d' ≤ n' * e) := by
  have p := vld_pos h
  have p' := vld_pos h'
  have k := (cmp_lt h h').1
  unfold latN latD
  by_cases g : cmpF n d n' d' < 0
  · rw [if_pos g, if_pos g]
    have l := Int.le_of_lt (k.1 g)
    refine ⟨⟨fun x => ⟨fle_trans p p' he l x, x⟩, fun x => x.2⟩, ⟨fun x => .inr x, fun x => ?_⟩⟩
    rcases x with x | x
    · exact fle_trans he p p' x l
    · exact x
  · rw [if_neg g, if_neg g]
    have l : n' * d ≤ n * d' := by
      apply Int.not_lt.1; intro y; exact g (k.2 y)
    refine ⟨⟨fun x => ⟨x, fle_trans p' p he l x⟩, fun x => x.1⟩, ⟨fun x => .inl x, fun x => ?_⟩⟩
    rcases x with x | x
    · exact x
    · exact fle_trans he p' p x l
theorem soo_le {n d n' d' m e : Int} (h : vld n d = true) (h' : vld n' d' = true) (he : 0 < e) : (m * sooD n d n' d' ≤ sooN n d n' d' * e ↔ m * d ≤ n * e ∧ m * d' ≤ n' * e) ∧ (sooN n d n' d' * e ≤ m * sooD n d n' d' ↔ n * e ≤ m * d ∨ n' * e ≤ m * d') := by
  have p := vld_pos h
  have p' := vld_pos h'
  have k := (cmp_lt h h').2
  unfold sooN sooD
  by_cases g : 0 < cmpF n d n' d'
  · rw [if_pos g, if_pos g]
    have l := Int.le_of_lt (k.1 g)
    refine ⟨⟨fun x => ⟨fle_trans he p' p x l, x⟩, fun x => x.2⟩, ⟨fun x => .inr x, fun x => ?_⟩⟩
    rcases x with x | x
    · exact fle_trans p' p he l x
    · exact x
  · rw [if_neg g, if_neg g]
    have l : n * d' ≤ n' * d := by
      apply Int.not_lt.1; intro y; exact g (k.2 y)
    refine ⟨⟨fun x => ⟨x, fle_trans he p p' x l⟩, fun x => x.1⟩, ⟨fun x => .inl x, fun x => ?_⟩⟩
    rcases x with x | x
    · exact x
    · exact fle_trans p p' he l x
/-- a made fraction, in comparisons -/
theorem mk_cmp {a w m e : Int} (hw : w ≠ 0) (h : mkE a w = 0) (he : 0 < e) :
    (mkN a w * e ≤ m * mkD a w ↔ (0 < w ∧ a * e ≤ m * w) ∨ (w < 0 ∧ m * w ≤ a * e)) ∧ (m * mkD a w ≤ mkN a w * e ↔ (0 < w ∧ m * w ≤ a * e) ∨ (w < 0 ∧ a * e ≤ m * w)) := by
  obtain ⟨k, hp⟩ := mk_eq h
  generalize mkN a w = N at *
  generalize mkD a w = D at *
  have e1 : (m * D - N * e) * w = (m * w - a * e) * D := by grind
  generalize hx : m * D - N * e = x at *
  generalize hy : m * w - a * e = y at *
  have A : ∀ {x y w D : Int}, 0 < D → 0 < w → x * w = y * D → (0 ≤ x ↔ 0 ≤ y) := by
    intro x y w D hD hw e
    constructor
    · intro g
      apply Int.not_lt.1; intro l
      have := Int.mul_nonneg g (show 0 ≤ w by omega)
      have := Int.mul_neg_of_neg_of_pos l hD
      omega
    · intro g
      apply Int.not_lt.1; intro l
      have := Int.mul_nonneg g (show 0 ≤ D by omega)
      have := Int.mul_neg_of_neg_of_pos l hw
      omega
  by_cases h0 : 0 < w
  · have B1 := A hp h0 e1
    have B2 := A (x := -x) (y := -y) hp h0 (by rw [Int.neg_mul, Int.neg_mul, e1])
    constructor <;> constructor <;> intro g <;> omega
  · have B1 := A (x := x) (y := -y) (w := -w) hp (by omega) (by rw [Int.neg_mul, Int.mul_neg, e1])
    have B2 := A (x := -x) (y := y) (w := -w) hp (by omega) (by rw [Int.neg_mul_neg, e1])
    constructor <;> constructor <;> intro g <;> omega
theorem mkD_le {a b : Int} (h : mkE a b = 0) : mkD a b ≤ b.natAbs := by
  obtain ⟨-, -, e2, -⟩ := mk_parts h
  have := loq_le a b
  omega
/-- what is known of limits -/
def VL (ax ay bx by_ x0 x1 : Int) (N D : Int) : Prop := vld N D = true ∧ D ≤ 4194304 ∧ (-8388608 ≤ N ∧ N ≤ 8388608) ∧
  ((N = 0 ∧ D = 1) ∨ (N = 1 ∧ D = 1) ∨ (bx - ax ≠ 0 ∧ ∃ c, (c = clamp x0 ∨ c = clamp x1) ∧ (bx - ax) * N = (c - ax) * D) ∨ (by_ - ay ≠ 0 ∧ ∃ c, (by_ - ay) * N = (c - ay) * D))
def RIn (L : Lm) (m e : Int) : Prop := L.no = false ∧ L.a * e ≤ m * L.b ∧ m * L.d ≤ L.c * e
theorem clamp_band {v z e : Int} (he : 0 < e) (hz : -2097152 * e ≤ z ∧ z ≤ 2097152 * e) : (clamp v * e ≤ z ↔ v * e ≤ z) ∧ (z ≤ clamp v * e ↔ z ≤ v * e) := by
  by_cases h1 : v < -4194304
  · have hc : clamp v = -4194304 := by unfold clamp; omega
    have := mul_lt1 he h1
    rw [hc]
    constructor <;> constructor <;> intro g <;> omega
  · by_cases h2 : 4194304 < v
    · have hc : clamp v = 4194304 := by unfold clamp; omega
      have := mul_lt1 he h2
      rw [hc]
      constructor <;> constructor <;> intro g <;> omega
    · have hc : clamp v = v := by unfold clamp; omega
      rw [hc]
      exact ⟨Iff.rfl, Iff.rfl⟩
/-- limits restricted: which parameters are left -/
theorem btw_in {L : Lm} {f t lo hi m e : Int} (v1 : vld L.a L.b = true) (v2 : vld L.c L.d = true) (hf : -2097152 ≤ f ∧ f ≤ 2097152) (ht : -2097152 ≤ t ∧ t ≤ 2097152) (hl : lo ≤ hi) (he : 0 < e) (hm : 0 ≤ m ∧ m ≤ e) :
    RIn (btw L f t lo hi) m e ↔ RIn L m e ∧ lo * e ≤ f * e + (t - f) * m ∧ f * e + (t - f) * m ≤ hi * e := by
  have hz : -2097152 * e ≤ f * e + (t - f) * m ∧ f * e + (t - f) * m ≤ 2097152 * e := by
    have e1 : f * e + (t - f) * m = f * (e - m) + t * m := by grind
    have k1 := Int.mul_le_mul_of_nonneg_right hf.1 (show 0 ≤ e - m by omega)
    have k2 := Int.mul_le_mul_of_nonneg_right hf.2 (show 0 ≤ e - m by omega)
    have k3 := Int.mul_le_mul_of_nonneg_right ht.1 hm.1
    have k4 := Int.mul_le_mul_of_nonneg_right ht.2 hm.1
    have e2 : -2097152 * (e - m) + -2097152 * m = -2097152 * e := by grind
    have e3 : 2097152 * (e - m) + 2097152 * m = 2097152 * e := by grind
    omega
  have c1 := clamp_band (v := lo) he hz
  have c2 := clamp_band (v := hi) he hz
  have hcl : clamp lo ≤ clamp hi := by unfold clamp; omega
  have i1 := clamp_in lo
  have i2 := clamp_in hi
  rw [← c1.1, ← c2.2]
  clear c1 c2
  unfold btw RIn
  by_cases hft : f = t
  · subst hft
    rw [if_pos rfl, Int.sub_self, Int.zero_mul, Int.add_zero]
    simp only [Bool.or_eq_false_iff, decide_eq_false_iff_not, Int.not_lt]
    have k1 : clamp lo ≤ f ↔ clamp lo * e ≤ f * e := ⟨fun g => mul_lle he g, fun g => Int.le_of_mul_le_mul_right g he⟩
    have k2 : f ≤ clamp hi ↔ f * e ≤ clamp hi * e := ⟨fun g => mul_lle he g, fun g => Int.le_of_mul_le_mul_right g he⟩
    rw [k1, k2]
    constructor
    · rintro ⟨⟨⟨a, b⟩, c⟩, d, g⟩; exact ⟨⟨a, d, g⟩, b, c⟩
    · rintro ⟨⟨a, d, g⟩, b, c⟩; exact ⟨⟨⟨a, b⟩, c⟩, d, g⟩
  · rw [if_neg hft]
    simp only
    have hw : t - f ≠ 0 := by omega
    have K1 := mk_small (a := clamp lo - f) (b := t - f) (by omega) (by omega) hw
    have K2 := mk_small (a := clamp hi - f) (b := t - f) (by omega) (by omega) hw
    have V1 := mk_vld K1.1
    have V2 := mk_vld K2.1
    have M1 := mk_cmp (m := m) (e := e) hw K1.1 he
    have M2 := mk_cmp (m := m) (e := e) hw K2.1 he
    have VL : vld (loN f t lo hi) (loD f t lo hi) = true := by
      unfold loN loD
      rcases soo_cases (mkN (clamp lo - f) (t - f)) (mkD (clamp lo - f) (t - f)) (mkN (clamp hi - f) (t - f)) (mkD (clamp hi - f) (t - f)) with ⟨a, b⟩ | ⟨a, b⟩ <;> rw [a, b]
      · exact V1
      · exact V2
    have VH : vld (hiN f t lo hi) (hiD f t lo hi) = true := by
      unfold hiN hiD
      rcases lat_cases (mkN (clamp lo - f) (t - f)) (mkD (clamp lo - f) (t - f)) (mkN (clamp hi - f) (t - f)) (mkD (clamp hi - f) (t - f)) with ⟨a, b⟩ | ⟨a, b⟩ <;> rw [a, b]
      · exact V1
      · exact V2
    rw [(lat_le v1 VL he).1, (soo_le v2 VH he).1]
    have q1 : loN f t lo hi * e ≤ m * loD f t lo hi ↔ _ := (soo_le (m := m) V1 V2 he).2
    have q2 : m * hiD f t lo hi ≤ hiN f t lo hi * e ↔ _ := (lat_le (m := m) V1 V2 he).2
    rw [q1, q2, M1.1, M2.1, M1.2, M2.2]
    have hle := mul_lle he hcl
    have e1 : (clamp lo - f) * e = clamp lo * e - f * e := Int.sub_mul _ _ _
    have e2 : (clamp hi - f) * e = clamp hi * e - f * e := Int.sub_mul _ _ _
    have e3 : m * (t - f) = (t - f) * m := Int.mul_comm _ _
    rw [e1, e2, e3]
    generalize (t - f) * m = z at *
    generalize clamp lo * e = u1 at *
    generalize clamp hi * e = u2 at *
    generalize f * e = fe at *
    constructor
    · rintro ⟨g0, ⟨g1, g2⟩, g3, g4⟩
      exact ⟨⟨g0, g1, g3⟩, by omega, by omega⟩
    · rintro ⟨⟨g0, g1, g3⟩, g2, g4⟩
      exact ⟨g0, ⟨g1, by omega⟩, g3, by omega⟩
theorem btw_good {C : Int → Int → Prop} (hC : ∀ N D, C N D → vld N D = true) {L : Lm} {f t lo hi : Int} (g1 : C L.a L.b) (g2 : C L.c L.d) (h0 : 0 ≤ L.a) (h1 : L.c ≤ L.d)
    (hs : f ≠ t → C (mkN (clamp lo - f) (t - f)) (mkD (clamp lo - f) (t - f))) (hu : f ≠ t → C (mkN (clamp hi - f) (t - f)) (mkD (clamp hi - f) (t - f))) :
    C (btw L f t lo hi).a (btw L f t lo hi).b ∧ C (btw L f t lo hi).c (btw L f t lo hi).d ∧ 0 ≤ (btw L f t lo hi).a ∧ (btw L f t lo hi).c ≤ (btw L f t lo hi).d := by
  unfold btw
  by_cases hft : f = t
  · rw [if_pos hft]; exact ⟨g1, g2, h0, h1⟩
  · rw [if_neg hft]
    simp only
    have s := hs hft
    have u := hu hft
    have cl : C (loN f t lo hi) (loD f t lo hi) := by
      unfold loN loD
      rcases soo_cases (mkN (clamp lo - f) (t - f)) (mkD (clamp lo - f) (t - f)) (mkN (clamp hi - f) (t - f)) (mkD (clamp hi - f) (t - f)) with ⟨a, b⟩ | ⟨a, b⟩ <;> rw [a, b]
      · exact s
      · exact u
    have ch : C (hiN f t lo hi) (hiD f t lo hi) := by
      unfold hiN hiD
      rcases lat_cases (mkN (clamp lo - f) (t - f)) (mkD (clamp lo - f) (t - f)) (mkN (clamp hi - f) (t - f)) (mkD (clamp hi - f) (t - f)) with ⟨a, b⟩ | ⟨a, b⟩ <;> rw [a, b]
      · exact s
      · exact u
    have r1 : C (latN L.a L.b (loN f t lo hi) (loD f t lo hi)) (latD L.a L.b (loN f t lo hi) (loD f t lo hi)) := by
      rcases lat_cases L.a L.b (loN f t lo hi) (loD f t lo hi) with ⟨a, b⟩ | ⟨a, b⟩ <;> rw [a, b]
      · exact g1
      · exact cl
    have r2 : C (sooN L.c L.d (hiN f t lo hi) (hiD f t lo hi)) (sooD L.c L.d (hiN f t lo hi) (hiD f t lo hi)) := by
      rcases soo_cases L.c L.d (hiN f t lo hi) (hiD f t lo hi) with ⟨a, b⟩ | ⟨a, b⟩ <;> rw [a, b]
      · exact g2
      · exact ch
    refine ⟨r1, r2, ?_, ?_⟩
    · have p := vld_pos (hC _ _ r1)
      have k := ((lat_le (hC _ _ g1) (hC _ _ cl) p).1.1 (Int.le_refl _)).1
      have pb := vld_pos (hC _ _ g1)
      have := Int.mul_nonneg h0 (show 0 ≤ latD L.a L.b (loN f t lo hi) (loD f t lo hi) by omega)
      apply Int.not_lt.1
      intro l
      have := Int.mul_neg_of_neg_of_pos l pb
      omega
    · have p := vld_pos (hC _ _ r2)
      have k := ((soo_le (hC _ _ g2) (hC _ _ ch) p).1.1 (Int.le_refl _)).1
      have pb := vld_pos (hC _ _ g2)
      have q := Int.mul_le_mul_of_nonneg_right h1 (show 0 ≤ sooD L.c L.d (hiN f t lo hi) (hiD f t lo hi) by omega)
      generalize sooN L.c L.d (hiN f t lo hi) (hiD f t lo hi) = n at *
      generalize sooD L.c L.d (hiN f t lo hi) (hiD f t lo hi) = d at *
      have : n * L.d ≤ d * L.d := by rw [Int.mul_comm d]; omega
      exact Int.le_of_mul_le_mul_right this pb
theorem clamp_is {v c : Int} (h : c = clamp v) (hc : -2097152 ≤ c ∧ c ≤ 2097152) : c = v := by unfold clamp at h; omega
theorem rnd_same {y w N D v a : Int} (hw : w ≠ 0) (hD : 0 < D) (h : w * N = (v - a) * D) : rnd (y * N) D = rnd (y * (v - a)) w := by
  by_cases hp : 0 < w
  · exact rnd_val hD hp (by rw [Int.mul_comm N w]; exact h)
  · rw [← rnd_neg_neg _ _ hw, show -(y * (v - a)) = y * (a - v) by grind]
    refine rnd_val hD (by omega) ?_
    rw [Int.mul_neg, Int.mul_comm N w, h]
    grind
theorem tmod_of {p k D : Int} (h : p = k * D) (hD : 0 < D) : p.tmod D = 0 ∧ p.tdiv D = k := by
  subst h
  exact ⟨Int.mul_tmod_left _ _, Int.mul_tdiv_cancel _ (by omega)⟩
/-- the value that a way reaches at a part of it lies between its ends -/
theorem mid_in {a b c N D : Int} (hD : 0 < D) (hN : 0 ≤ N ∧ N ≤ D) (h : (b - a) * N = (c - a) * D) : min a b ≤ c ∧ c ≤ max a b := by
  by_cases hp : 0 ≤ b - a
  · have k := mul_le1 hp hN.1 hN.2
    have l1 : 0 * D ≤ (c - a) * D := by rw [Int.zero_mul]; omega
    have l2 : (c - a) * D ≤ (b - a) * D := by omega
    have := Int.le_of_mul_le_mul_right l1 hD
    have := Int.le_of_mul_le_mul_right l2 hD
    omega
  · have k := mul_le2 (w := b - a) (by omega) hN.1 hN.2
    have l1 : (c - a) * D ≤ 0 * D := by rw [Int.zero_mul]; omega
    have l2 : (b - a) * D ≤ (c - a) * D := by omega
    have := Int.le_of_mul_le_mul_right l1 hD
    have := Int.le_of_mul_le_mul_right l2 hD
    omega
theorem at_mid {ax ay bx by_ v : Int} (hn : nearL [(ax, ay), (bx, by_)] = true) (hw : bx - ax ≠ 0) (h : min ax bx ≤ v ∧ v ≤ max ax bx) : atV ax ay bx by_ v = ay + rnd ((by_ - ay) * (v - ax)) (bx - ax) := by
  have : atE ax ay bx by_ v = 0 := by unfold atE; rw [if_pos hn, if_neg (by omega), if_neg (by omega)]
  unfold atV
  rw [if_pos this]; rfl
theorem tmod_div {p D : Int} (hD : 0 < D) (h : p.tmod D = 0) : p = p.tdiv D * D := by
  have := (tq p D (by omega)).1
  rw [Int.mul_comm]; omega
/-- what at gives for a candidate -/
theorem at_cand {ax ay bx by_ x0 x1 N D : Int} (hn : nearL [(ax, ay), (bx, by_)] = true) (hV : VL ax ay bx by_ x0 x1 N D) (hN : 0 ≤ N ∧ N ≤ D) :
    AtC ax ay bx by_ N D x0 x1 (ax + rnd ((bx - ax) * N) D) (ay + rnd ((by_ - ay) * N) D) := by
  obtain ⟨hv, -, -, hc⟩ := hV
  have hD := vld_pos hv
  have na := (near2_iff ..).1 hn
  unfold Nr at na
  unfold AtC
  by_cases h1 : ((bx - ax) * N).tmod D = 0
  · have e1 := tmod_div hD h1
    have r1 : rnd ((bx - ax) * N) D = ((bx - ax) * N).tdiv D := rnd_exact hD e1
    by_cases h2 : ((by_ - ay) * N).tmod D = 0
    · have e2 := tmod_div hD h2
      have r2 : rnd ((by_ - ay) * N) D = ((by_ - ay) * N).tdiv D := rnd_exact hD e2
      exact .inl ⟨h1, h2, by rw [r1], by rw [r2]⟩
    · refine .inr (.inl ⟨h1, h2, by rw [r1], ?_⟩)
      rcases hc with ⟨rfl, rfl⟩ | ⟨rfl, rfl⟩ | ⟨hw, c, hcc, he⟩ | ⟨hw, c, he⟩
      · exact absurd (by rw [Int.mul_zero]; rfl) h2
      · exact absurd (Int.tmod_one _) h2
      · have hm := mid_in hD hN he
        have k := (tmod_of he hD).2
        rw [r1, k, show ax + (c - ax) = c by omega]
        refine ⟨?_, ?_⟩
        · rcases hcc with g | g
          · exact .inl (clamp_is g (by omega))
          · exact .inr (clamp_is g (by omega))
        · rw [at_mid hn hw hm, rnd_same hw hD he]
      · exact absurd (tmod_of he hD).1 h2
  · refine .inr (.inr ⟨h1, ?_⟩)
    rcases hc with ⟨rfl, rfl⟩ | ⟨rfl, rfl⟩ | ⟨hw, c, hcc, he⟩ | ⟨hw, c, he⟩
    · exact absurd (by rw [Int.mul_zero]; rfl) h1
    · exact absurd (Int.tmod_one _) h1
    · exact absurd (tmod_of he hD).1 h1
    · have hm := mid_in hD hN he
      have k := (tmod_of he hD).2
      have r2 : rnd ((by_ - ay) * N) D = c - ay := rnd_exact hD he
      rw [r2, k, show ay + (c - ay) = c by omega]
      refine ⟨rfl, ?_⟩
      rw [at_mid (ax := ay) (ay := ax) (bx := by_) (by_ := bx) (by rw [near_turn]; exact hn) hw hm, rnd_same hw hD he]
/-- the reference's limits -/
def RL (ax ay bx by_ x0 y0 x1 y1 : Int) : Lm := btw (btw ⟨0, 1, 1, 1, false⟩ ax bx x0 x1) ay by_ y0 y1
theorem vl_x {ax ay bx by_ x0 x1 c : Int} (hf : -2097152 ≤ ax ∧ ax ≤ 2097152) (ht : -2097152 ≤ bx ∧ bx ≤ 2097152) (hc : c = clamp x0 ∨ c = clamp x1) (h : ax ≠ bx) : VL ax ay bx by_ x0 x1 (mkN (c - ax) (bx - ax)) (mkD (c - ax) (bx - ax)) := by
  have hi : -4194304 ≤ c ∧ c ≤ 4194304 := by rcases hc with g | g <;> rw [g] <;> exact clamp_in _
  have K := mk_small (a := c - ax) (b := bx - ax) (by omega) (by omega) (by omega)
  have := mkD_le K.1
  refine ⟨mk_vld K.1, by omega, K.2.1, .inr (.inr (.inl ⟨by omega, c, hc, ?_⟩))⟩
  rw [Int.mul_comm]; exact (mk_eq K.1).1
theorem vl_y {ax ay bx by_ x0 x1 v : Int} (hf : -2097152 ≤ ay ∧ ay ≤ 2097152) (ht : -2097152 ≤ by_ ∧ by_ ≤ 2097152) (h : ay ≠ by_) : VL ax ay bx by_ x0 x1 (mkN (clamp v - ay) (by_ - ay)) (mkD (clamp v - ay) (by_ - ay)) := by
  have hi := clamp_in v
  have K := mk_small (a := clamp v - ay) (b := by_ - ay) (by omega) (by omega) (by omega)
  have := mkD_le K.1
  refine ⟨mk_vld K.1, by omega, K.2.1, .inr (.inr (.inr ⟨by omega, clamp v, ?_⟩))⟩
  rw [Int.mul_comm]; exact (mk_eq K.1).1
theorem vl_01 (ax ay bx by_ x0 x1 : Int) : VL ax ay bx by_ x0 x1 0 1 ∧ VL ax ay bx by_ x0 x1 1 1 := by
  refine ⟨⟨by decide, by decide, by decide, .inl ⟨rfl, rfl⟩⟩, ⟨by decide, by decide, by decide, .inr (.inl ⟨rfl, rfl⟩)⟩⟩
/-- the limits after the first axis, and after both -/
theorem rl_good {ax ay bx by_ x0 y0 x1 y1 : Int} (hn : nearL [(ax, ay), (bx, by_)] = true) :
    (VL ax ay bx by_ x0 x1 (btw ⟨0, 1, 1, 1, false⟩ ax bx x0 x1).a (btw ⟨0, 1, 1, 1, false⟩ ax bx x0 x1).b ∧ VL ax ay bx by_ x0 x1 (btw ⟨0, 1, 1, 1, false⟩ ax bx x0 x1).c (btw ⟨0, 1, 1, 1, false⟩ ax bx x0 x1).d) ∧
    VL ax ay bx by_ x0 x1 (RL ax ay bx by_ x0 y0 x1 y1).a (RL ax ay bx by_ x0 y0 x1 y1).b ∧ VL ax ay bx by_ x0 x1 (RL ax ay bx by_ x0 y0 x1 y1).c (RL ax ay bx by_ x0 y0 x1 y1).d ∧ 0 ≤ (RL ax ay bx by_ x0 y0 x1 y1).a ∧ (RL ax ay bx by_ x0 y0 x1 y1).c ≤ (RL ax ay bx by_ x0 y0 x1 y1).d := by
  have na := (near2_iff ..).1 hn
  unfold Nr at na
  have z := vl_01 ax ay bx by_ x0 x1
  have A := btw_good (C := VL ax ay bx by_ x0 x1) (fun N D h => h.1) (L := ⟨0, 1, 1, 1, false⟩) (f := ax) (t := bx) (lo := x0) (hi := x1) z.1 z.2 (by decide) (by decide)
    (fun h => vl_x (by omega) (by omega) (.inl rfl) h) (fun h => vl_x (by omega) (by omega) (.inr rfl) h)
  have B := btw_good (C := VL ax ay bx by_ x0 x1) (fun N D h => h.1) (f := ay) (t := by_) (lo := y0) (hi := y1) A.1 A.2.1 A.2.2.1 A.2.2.2
    (fun h => vl_y (by omega) (by omega) h) (fun h => vl_y (by omega) (by omega) h)
  exact ⟨⟨A.1, A.2.1⟩, B⟩
/-- the reference's Clip gives what Clip gives -/
theorem ref_clip {ax ay bx by_ x0 y0 x1 y1 : Int} (hn : nearL [(ax, ay), (bx, by_)] = true) (hx : x0 ≤ x1) (hy : y0 ≤ y1) (L : Lm) (hL : L = RL ax ay bx by_ x0 y0 x1 y1) :
    clO ax ay bx by_ x0 y0 x1 y1 = (!L.no && !decide (0 < cmpF L.a L.b L.c L.d)) ∧ (clO ax ay bx by_ x0 y0 x1 y1 = true → (0 ≤ L.a ∧ L.a ≤ L.b) ∧ (0 ≤ L.c ∧ L.c ≤ L.d) ∧
      AtC ax ay bx by_ L.a L.b x0 x1 (clX ax ay bx by_ x0 y0 x1 y1) (clY ax ay bx by_ x0 y0 x1 y1) ∧ AtC ax ay bx by_ L.c L.d x0 x1 (clZ ax ay bx by_ x0 y0 x1 y1) (clW ax ay bx by_ x0 y0 x1 y1)) := by
  have na := (near2_iff ..).1 hn
  unfold Nr at na
  obtain ⟨⟨a1, a2⟩, g1, g2, g3, g4⟩ := rl_good (x0 := x0) (y0 := y0) (x1 := x1) (y1 := y1) hn
  have key : ∀ m e : Int, 0 < e → 0 ≤ m → m ≤ e → (RIn (RL ax ay bx by_ x0 y0 x1 y1) m e ↔ Bxd ax ay bx by_ x0 y0 x1 y1 m e) := by
    intro m e he h0 h
    unfold RL Bxd
    rw [btw_in a1.1 a2.1 (by omega) (by omega) hy he ⟨h0, h⟩, btw_in (L := ⟨0, 1, 1, 1, false⟩) (by decide) (by decide) (by omega) (by omega) hx he ⟨h0, h⟩]
    have : RIn ⟨0, 1, 1, 1, false⟩ m e := ⟨rfl, by simp only; omega, by simp only; omega⟩
    constructor
    · rintro ⟨⟨p, q⟩, r⟩; exact ⟨q, r⟩
    · rintro ⟨q, r⟩; exact ⟨⟨this, q⟩, r⟩
  rw [← hL] at key g1 g2 g3 g4
  clear hL a1 a2
  have p1 := vld_pos g1.1
  have p2 := vld_pos g2.1
  have hp : Part ax ay bx by_ x0 y0 x1 y1 (!L.no && !decide (0 < cmpF L.a L.b L.c L.d)) (clV (!L.no && !decide (0 < cmpF L.a L.b L.c L.d)) (ax + rnd ((bx - ax) * L.a) L.b)) (clV (!L.no && !decide (0 < cmpF L.a L.b L.c L.d)) (ay + rnd ((by_ - ay) * L.a) L.b))
      (clV (!L.no && !decide (0 < cmpF L.a L.b L.c L.d)) (ax + rnd ((bx - ax) * L.c) L.d)) (clV (!L.no && !decide (0 < cmpF L.a L.b L.c L.d)) (ay + rnd ((by_ - ay) * L.c) L.d)) ∧
      ((!L.no && !decide (0 < cmpF L.a L.b L.c L.d)) = true → (0 ≤ L.a ∧ L.a ≤ L.b) ∧ (0 ≤ L.c ∧ L.c ≤ L.d)) := by
    have hcmp := (cmp_lt g1.1 g2.1).2
    cases ho : (!L.no && !decide (0 < cmpF L.a L.b L.c L.d))
    · refine ⟨.inl ⟨rfl, rfl, rfl, rfl, rfl, fun n d hd h0 h hb => ?_⟩, fun h => by cases h⟩
      obtain ⟨q1, q2, q3⟩ := (key n d hd h0 h).2 hb
      have l := fle_trans p1 hd p2 q2 q3
      rw [q1] at ho
      simp at ho
      have := hcmp.1 ho
      omega
    · simp only [Bool.and_eq_true, Bool.not_eq_true', decide_eq_false_iff_not] at ho
      obtain ⟨q1, q2⟩ := ho
      have l : L.a * L.d ≤ L.c * L.b := by
        apply Int.not_lt.1; intro g; exact q2 (hcmp.2 g)
      have hab : L.a ≤ L.b := by
        have k := Int.mul_le_mul_of_nonneg_right g4 (show 0 ≤ L.b by omega)
        have : L.a * L.d ≤ L.b * L.d := by rw [Int.mul_comm L.b]; omega
        exact Int.le_of_mul_le_mul_right this p2
      have hc0 : 0 ≤ L.c := by
        have k := Int.mul_nonneg g3 (show 0 ≤ L.d by omega)
        apply Int.not_lt.1; intro g
        have := Int.mul_neg_of_neg_of_pos g p1
        omega
      refine ⟨.inr ⟨rfl, L.a, L.b, L.c, L.d, p1, g3, hab, p2, hc0, g4, l, fun n d hd h0 h => ?_, rfl, rfl, rfl, rfl⟩, fun _ => ⟨⟨g3, hab⟩, hc0, g4⟩⟩
      rw [← key n d hd h0 h]
      exact ⟨fun x => x.2, fun x => ⟨q1, x⟩⟩
  obtain ⟨hp, hb⟩ := hp
  obtain ⟨e1, e2, e3, e4, e5⟩ := part_uniq (cl_part x0 y0 x1 y1 hn) hp
  refine ⟨e1, fun h => ?_⟩
  rw [e1] at h
  obtain ⟨b1, b2⟩ := hb h
  rw [h] at e2 e3 e4 e5
  refine ⟨b1, b2, ?_, ?_⟩
  · rw [e2, e3]; exact at_cand hn g1 b1
  · rw [e4, e5]; exact at_cand hn g2 b2
/-- a box turned round holds nothing -/
theorem cl_void {ax ay bx by_ x0 y0 x1 y1 : Int} (h : x1 < x0 ∨ y1 < y0) : clO ax ay bx by_ x0 y0 x1 y1 = false ∧ clX ax ay bx by_ x0 y0 x1 y1 = 0 ∧ clY ax ay bx by_ x0 y0 x1 y1 = 0 ∧ clZ ax ay bx by_ x0 y0 x1 y1 = 0 ∧ clW ax ay bx by_ x0 y0 x1 y1 = 0 := by
  have ho : clO ax ay bx by_ x0 y0 x1 y1 = false := by
    cases ho : clO ax ay bx by_ x0 y0 x1 y1
    · rfl
    · have hp := cl_part x0 y0 x1 y1 (near_of ho)
      rw [ho] at hp
      have := (part_in hp).1
      omega
  unfold clX clY clZ clW
  rw [ho]
  exact ⟨rfl, rfl, rfl, rfl, rfl⟩
theorem cl_none {ax ay bx by_ x0 y0 x1 y1 : Int} (ho : clO ax ay bx by_ x0 y0 x1 y1 = false) : clX ax ay bx by_ x0 y0 x1 y1 = 0 ∧ clY ax ay bx by_ x0 y0 x1 y1 = 0 ∧ clZ ax ay bx by_ x0 y0 x1 y1 = 0 ∧ clW ax ay bx by_ x0 y0 x1 y1 = 0 := by
  unfold clX clY clZ clW
  rw [ho]
  exact ⟨rfl, rfl, rfl, rfl⟩
end Go.Proofs.Ytpdiojndfckmfaa.Cut
end
section
namespace Go.Proofs.Ytpdiojndfckmfaa
open Go.RowKit
open Num Geo Cut
set_option linter.unusedVariables false
set_option maxHeartbeats 2000000 in
theorem later_any (n d n' d' : Int) (w : World) (h1 : I64 n) (h2 : I64 d) (h3 : I64 n') (h4 : I64 d') :
    Calls Try.prog 63 #[.agg #[.int .i64 n, .int .i64 d], .agg #[.int .i64 n', .int .i64 d']] w fun e w' => e = .returned (.agg #[.int .i64 (latN n d n' d'), .int .i64 (latD n d n' d')]) ∧ Below w.heap.size w w' := by
  have HC := Lib.hid (fun u => rcmp_any n d n' d' u h1 h2 h3 h4)
  have E1 : Hid (latN n d n' d' = if cmpF n d n' d' < 0 then n' else n) := Lib.hid rfl
  have E2 : Hid (latD n d n' d' = if cmpF n d n' d' < 0 then d' else d) := Lib.hid rfl
  generalize latN n d n' d' = N at *
  generalize latD n d n' d' = D at *
  generalize cmpF n d n' d' = c at *
  clear h1 h2 h3 h4
  have a1 := Bx.new w n d 64
  have b1 := below_al w (.cells #[.int .i64 n, .int .i64 d] 64)
  have s1 : (w.alloc (.cells #[.int .i64 n, .int .i64 d] 64)).heap.size = w.heap.size + 1 := by simp
  go_enter Try.func63, Try.ntmps63
  go_upto_region 1 with fail
  generalize w.alloc (.cells #[.int .i64 n, .int .i64 d] 64) = v1 at *
  have a2 := Bx.new v1 n' d' 64
  have b2 := below_al v1 (.cells #[.int .i64 n', .int .i64 d'] 64)
  have s2 : (v1.alloc (.cells #[.int .i64 n', .int .i64 d'] 64)).heap.size = w.heap.size + 1 + 1 := by simp [s1]
  rw [s1] at a2
  generalize v1.alloc (.cells #[.int .i64 n', .int .i64 d'] 64) = v2 at *
  have a3 := Bx.new v2 0 0 64
  have b3 := below_al v2 (.cells #[.int .i64 0, .int .i64 0] 64)
  rw [s2] at a3
  have K1 := Lib.hid ((a1.later b2).later b3)
  have K2 := Lib.hid (a2.later b3)
  have K3 := Lib.hid a3
  have G := Lib.hid (below_on (below_on b1 b2) b3)
  clear a1 a2 a3 b1 b2 b3 s1 s2
  generalize v2.alloc (.cells #[.int .i64 0, .int .i64 0] 64) = v3 at *
  obtain ⟨c0, c1, -⟩ := K1.out
  obtain ⟨c2, c3, -⟩ := K2.out
  go_wp2_with fail
  refine (HC.out _).mono ?_
  rintro e w1 ⟨rfl, hb⟩
  have M1 := Lib.hid (K1.out.later hb)
  have M2 := Lib.hid (K2.out.later hb)
  have M3 := Lib.hid (K3.out.later hb)
  have G1 := Lib.hid (below_on G.out hb)
  clear hb K1 K2 K3 G HC c0 c1 c2 c3
  obtain ⟨c0, c1, -⟩ := M1.out
  obtain ⟨c2, c3, -⟩ := M2.out
  obtain ⟨k0, k1, k2⟩ := M3.out
  by_cases hc : c < 0
  · have d1 : decide (c < 0) = true := by simpa using hc
    obtain rfl : N = n' := by rw [E1.out, if_pos hc]
    obtain rfl : D = d' := by rw [E2.out, if_pos hc]
    obtain ⟨r0, r1, -⟩ := M3.out.same N D
    have G2 := Lib.hid ((G1.out.setCell (p := ⟨w.heap.size + 1 + 1, 0, none⟩) (by show w.heap.size ≤ w.heap.size + 1 + 1; omega) (.int .i64 N)).setCell (p := ⟨w.heap.size + 1 + 1, 1, none⟩) (by show w.heap.size ≤ w.heap.size + 1 + 1; omega) (.int .i64 D))
    clear hc E1 E2
    go_wp2
    exact bodyPost_ret (v := .agg #[.int .i64 N, .int .i64 D]) (by simp [results, Try.results63, go_sem, r0, r1]) rfl ⟨rfl, G2.out⟩
  · have d1 : decide (c < 0) = false := by simpa using hc
    obtain rfl : N = n := by rw [E1.out, if_neg hc]
    obtain rfl : D = d := by rw [E2.out, if_neg hc]
    obtain ⟨r0, r1, -⟩ := M3.out.same N D
    have G2 := Lib.hid ((G1.out.setCell (p := ⟨w.heap.size + 1 + 1, 0, none⟩) (by show w.heap.size ≤ w.heap.size + 1 + 1; omega) (.int .i64 N)).setCell (p := ⟨w.heap.size + 1 + 1, 1, none⟩) (by show w.heap.size ≤ w.heap.size + 1 + 1; omega) (.int .i64 D))
    clear hc E1 E2
    go_wp2
    exact bodyPost_ret (v := .agg #[.int .i64 N, .int .i64 D]) (by simp [results, Try.results63, go_sem, r0, r1]) rfl ⟨rfl, G2.out⟩
set_option maxHeartbeats 2000000 in
theorem sooner_any (n d n' d' : Int) (w : World) (h1 : I64 n) (h2 : I64 d) (h3 : I64 n') (h4 : I64 d') :
    Calls Try.prog 64 #[.agg #[.int .i64 n, .int .i64 d], .agg #[.int .i64 n', .int .i64 d']] w fun e w' => e = .returned (.agg #[.int .i64 (sooN n d n' d'), .int .i64 (sooD n d n' d')]) ∧ Below w.heap.size w w' := by
  have HC := Lib.hid (fun u => rcmp_any n d n' d' u h1 h2 h3 h4)
  have E1 : Hid (sooN n d n' d' = if 0 < cmpF n d n' d' then n' else n) := Lib.hid rfl
  have E2 : Hid (sooD n d n' d' = if 0 < cmpF n d n' d' then d' else d) := Lib.hid rfl
  generalize sooN n d n' d' = N at *
  generalize sooD n d n' d' = D at *
  generalize cmpF n d n' d' = c at *
  clear h1 h2 h3 h4
  have a1 := Bx.new w n d 64
  have b1 := below_al w (.cells #[.int .i64 n, .int .i64 d] 64)
  have s1 : (w.alloc (.cells #[.int .i64 n, .int .i64 d] 64)).heap.size = w.heap.size + 1 := by simp
  go_enter Try.func64, Try.ntmps64
  go_upto_region 1 with fail
  generalize w.alloc (.cells #[.int .i64 n, .int .i64 d] 64) = v1 at *
  have a2 := Bx.new v1 n' d' 64
  have b2 := below_al v1 (.cells #[.int .i64 n', .int .i64 d'] 64)
  have s2 : (v1.alloc (.cells #[.int .i64 n', .int .i64 d'] 64)).heap.size = w.heap.size + 1 + 1 := by simp [s1]
  rw [s1] at a2
  generalize v1.alloc (.cells #[.int .i64 n', .int .i64 d'] 64) = v2 at *
  have a3 := Bx.new v2 0 0 64
  have b3 := below_al v2 (.cells #[.int .i64 0, .int .i64 0] 64)
  rw [s2] at a3
  have K1 := Lib.hid ((a1.later b2).later b3)
  have K2 := Lib.hid (a2.later b3)
  have K3 := Lib.hid a3
  have G := Lib.hid (below_on (below_on b1 b2) b3)
  clear a1 a2 a3 b1 b2 b3 s1 s2
  generalize v2.alloc (.cells #[.int .i64 0, .int .i64 0] 64) = v3 at *
  obtain ⟨c0, c1, -⟩ := K1.out
  obtain ⟨c2, c3, -⟩ := K2.out
  go_wp2_with fail
  refine (HC.out _).mono ?_
  rintro e w1 ⟨rfl, hb⟩
  have M1 := Lib.hid (K1.out.later hb)
  have M2 := Lib.hid (K2.out.later hb)
  have M3 := Lib.hid (K3.out.later hb)
  have G1 := Lib.hid (below_on G.out hb)
  clear hb K1 K2 K3 G HC c0 c1 c2 c3
  obtain ⟨c0, c1, -⟩ := M1.out
  obtain ⟨c2, c3, -⟩ := M2.out
  obtain ⟨k0, k1, k2⟩ := M3.out
  by_cases hc : 0 < c
  · have d1 : decide (0 < c) = true := by simpa using hc
    obtain rfl : N = n' := by rw [E1.out, if_pos hc]
    obtain rfl : D = d' := by rw [E2.out, if_pos hc]
    obtain ⟨r0, r1, -⟩ := M3.out.same N D
    have G2 := Lib.hid ((G1.out.setCell (p := ⟨w.heap.size + 1 + 1, 0, none⟩) (by show w.heap.size ≤ w.heap.size + 1 + 1; omega) (.int .i64 N)).setCell (p := ⟨w.heap.size + 1 + 1, 1, none⟩) (by show w.heap.size ≤ w.heap.size + 1 + 1; omega) (.int .i64 D))
    clear hc E1 E2
    go_wp2
    exact bodyPost_ret (v := .agg #[.int .i64 N, .int .i64 D]) (by simp [results, Try.results64, go_sem, r0, r1]) rfl ⟨rfl, G2.out⟩
  · have d1 : decide (0 < c) = false := by simpa using hc
    obtain rfl : N = n := by rw [E1.out, if_neg hc]
    obtain rfl : D = d := by rw [E2.out, if_neg hc]
    obtain ⟨r0, r1, -⟩ := M3.out.same N D
    have G2 := Lib.hid ((G1.out.setCell (p := ⟨w.heap.size + 1 + 1, 0, none⟩) (by show w.heap.size ≤ w.heap.size + 1 + 1; omega) (.int .i64 N)).setCell (p := ⟨w.heap.size + 1 + 1, 1, none⟩) (by show w.heap.size ≤ w.heap.size + 1 + 1; omega) (.int .i64 D))
    clear hc E1 E2
    go_wp2
    exact bodyPost_ret (v := .agg #[.int .i64 N, .int .i64 D]) (by simp [results, Try.results64, go_sem, r0, r1]) rfl ⟨rfl, G2.out⟩
end Go.Proofs.Ytpdiojndfckmfaa
end
section
namespace Go.Proofs.Ytpdiojndfckmfaa
open Go.RowKit
open Num Geo Cut
set_option linter.unusedVariables false
/-- limits in a block of five cells -/
def L5 (v : World) (b : Nat) (L : Lm) : Prop := v.cell? ⟨b, 0, none⟩ = some (.int .i64 L.a) ∧ v.cell? ⟨b, 1, none⟩ = some (.int .i64 L.b) ∧ v.cell? ⟨b, 2, none⟩ = some (.int .i64 L.c) ∧ v.cell? ⟨b, 3, none⟩ = some (.int .i64 L.d) ∧ v.cell? ⟨b, 4, none⟩ = some (.bool L.no) ∧ ∀ o, v.frozen? ⟨b, o, none⟩ = false
theorem L5.later {v u : World} {b : Nat} {L : Lm} (h : L5 v b L) (hb : Below v.heap.size v u) : L5 u b L :=
  ⟨cell_on h.1 hb, cell_on h.2.1 hb, cell_on h.2.2.1 hb, cell_on h.2.2.2.1 hb, cell_on h.2.2.2.2.1 hb, fun o => (hb.frozen (p := ⟨b, o, none⟩) (cell_lt h.1)).trans (h.2.2.2.2.2 o)⟩
theorem L5.new (u : World) (L : Lm) (t : TypeId) : L5 (u.alloc (.cells #[.int .i64 L.a, .int .i64 L.b, .int .i64 L.c, .int .i64 L.d, .bool L.no] t)) u.heap.size L := ⟨by simp, by simp, by simp, by simp, by simp, fun o => by simp⟩
theorem L5.other {v : World} {b c o : Nat} {L : Lm} (h : L5 v b L) (hn : b ≠ c) (z : Value) : L5 (v.setCell ⟨c, o, none⟩ z) b L := by
  have k : ∀ i, (⟨c, o, none⟩ : Addr) ≠ ⟨b, i, none⟩ := by intro i hx; injection hx with h1 h2; exact hn h1.symm
  refine ⟨?_, ?_, ?_, ?_, ?_, fun o => by simp [h.2.2.2.2.2 o]⟩
  · rw [World.cell?_setCell_other _ _ _ _ (k 0)]; exact h.1
  · rw [World.cell?_setCell_other _ _ _ _ (k 1)]; exact h.2.1
  · rw [World.cell?_setCell_other _ _ _ _ (k 2)]; exact h.2.2.1
  · rw [World.cell?_setCell_other _ _ _ _ (k 3)]; exact h.2.2.2.1
  · rw [World.cell?_setCell_other _ _ _ _ (k 4)]; exact h.2.2.2.2.1
theorem L5.set0 {v : World} {b : Nat} {L : Lm} (h : L5 v b L) (z : Int) : L5 (v.setCell ⟨b, 0, none⟩ (.int .i64 z)) b { L with a := z } := by
  refine ⟨World.cell?_setCell_same _ _ _ h.1, ?_, ?_, ?_, ?_, fun o => by simp [h.2.2.2.2.2 o]⟩
  · rw [World.cell?_setCell_other _ _ _ _ (by simp)]; exact h.2.1
  · rw [World.cell?_setCell_other _ _ _ _ (by simp)]; exact h.2.2.1
  · rw [World.cell?_setCell_other _ _ _ _ (by simp)]; exact h.2.2.2.1
  · rw [World.cell?_setCell_other _ _ _ _ (by simp)]; exact h.2.2.2.2.1
theorem L5.set1 {v : World} {b : Nat} {L : Lm} (h : L5 v b L) (z : Int) : L5 (v.setCell ⟨b, 1, none⟩ (.int .i64 z)) b { L with b := z } := by
  refine ⟨?_, World.cell?_setCell_same _ _ _ h.2.1, ?_, ?_, ?_, fun o => by simp [h.2.2.2.2.2 o]⟩
  · rw [World.cell?_setCell_other _ _ _ _ (by simp)]; exact h.1
  · rw [World.cell?_setCell_other _ _ _ _ (by simp)]; exact h.2.2.1
  · rw [World.cell?_setCell_other _ _ _ _ (by simp)]; exact h.2.2.2.1
  · rw [World.cell?_setCell_other _ _ _ _ (by simp)]; exact h.2.2.2.2.1
theorem L5.set2 {v : World} {b : Nat} {L : Lm} (h : L5 v b L) (z : Int) : L5 (v.setCell ⟨b, 2, none⟩ (.int .i64 z)) b { L with c := z } := by
  refine ⟨?_, ?_, World.cell?_setCell_same _ _ _ h.2.2.1, ?_, ?_, fun o => by simp [h.2.2.2.2.2 o]⟩
  · rw [World.cell?_setCell_other _ _ _ _ (by simp)]; exact h.1
  · rw [World.cell?_setCell_other _ _ _ _ (by simp)]; exact h.2.1
  · rw [World.cell?_setCell_other _ _ _ _ (by simp)]; exact h.2.2.2.1
  · rw [World.cell?_setCell_other _ _ _ _ (by simp)]; exact h.2.2.2.2.1
theorem L5.set3 {v : World} {b : Nat} {L : Lm} (h : L5 v b L) (z : Int) : L5 (v.setCell ⟨b, 3, none⟩ (.int .i64 z)) b { L with d := z } := by
  refine ⟨?_, ?_, ?_, World.cell?_setCell_same _ _ _ h.2.2.2.1, ?_, fun o => by simp [h.2.2.2.2.2 o]⟩
  · rw [World.cell?_setCell_other _ _ _ _ (by simp)]; exact h.1
  · rw [World.cell?_setCell_other _ _ _ _ (by simp)]; exact h.2.1
  · rw [World.cell?_setCell_other _ _ _ _ (by simp)]; exact h.2.2.1
  · rw [World.cell?_setCell_other _ _ _ _ (by simp)]; exact h.2.2.2.2.1
theorem L5.set4 {v : World} {b : Nat} {L : Lm} (h : L5 v b L) (z : Bool) : L5 (v.setCell ⟨b, 4, none⟩ (.bool z)) b { L with no := z } := by
  refine ⟨?_, ?_, ?_, ?_, World.cell?_setCell_same _ _ _ h.2.2.2.2.1, fun o => by simp [h.2.2.2.2.2 o]⟩
  · rw [World.cell?_setCell_other _ _ _ _ (by simp)]; exact h.1
  · rw [World.cell?_setCell_other _ _ _ _ (by simp)]; exact h.2.1
  · rw [World.cell?_setCell_other _ _ _ _ (by simp)]; exact h.2.2.1
  · rw [World.cell?_setCell_other _ _ _ _ (by simp)]; exact h.2.2.2.1
theorem L5.all {v : World} {b : Nat} {L : Lm} (h : L5 v b L) (M : Lm) : L5 (((((v.setCell ⟨b, 0, none⟩ (.int .i64 M.a)).setCell ⟨b, 1, none⟩ (.int .i64 M.b)).setCell ⟨b, 2, none⟩ (.int .i64 M.c)).setCell ⟨b, 3, none⟩ (.int .i64 M.d)).setCell ⟨b, 4, none⟩ (.bool M.no)) b M :=
  ((((h.set0 M.a).set1 M.b).set2 M.c).set3 M.d).set4 M.no
/-- the result is written into its block -/
theorem btw_end {w u : World} {n : Nat} {L M : Lm} (h : L5 u (n + 1) L) (hb : Below n w u) (K : Lm) (hM : K = M) :
    let v := ((((u.setCell ⟨n + 1, 0, none⟩ (.int .i64 K.a)).setCell ⟨n + 1, 1, none⟩ (.int .i64 K.b)).setCell ⟨n + 1, 2, none⟩ (.int .i64 K.c)).setCell ⟨n + 1, 3, none⟩ (.int .i64 K.d)).setCell ⟨n + 1, 4, none⟩ (.bool K.no)
    L5 v (n + 1) K ∧ Below n w v :=
  ⟨h.all K, ((((hb.setCell (by show n ≤ n + 1; omega) _).setCell (by show n ≤ n + 1; omega) _).setCell (by show n ≤ n + 1; omega) _).setCell (by show n ≤ n + 1; omega) _).setCell (by show n ≤ n + 1; omega) _⟩
theorem ret_lm {K M : Lm} (h : K = M) : Ending.returned (.agg #[.int .i64 K.a, .int .i64 K.b, .int .i64 K.c, .int .i64 K.d, .bool K.no]) = .returned (.agg #[.int .i64 M.a, .int .i64 M.b, .int .i64 M.c, .int .i64 M.d, .bool M.no]) := by rw [h]
set_option maxRecDepth 100000 in
set_option maxHeartbeats 8000000 in
theorem btw_same (a b c d : Int) (no : Bool) (f lo hi : Int) (w : World) :
    Calls Try.prog 42 #[.agg #[.int .i64 a, .int .i64 b, .int .i64 c, .int .i64 d, .bool no], .int .i64 f, .int .i64 f, .int .i64 lo, .int .i64 hi] w
      fun e w' => e = .returned (.agg #[.int .i64 a, .int .i64 b, .int .i64 c, .int .i64 d, .bool ((no || decide (f < clamp lo)) || decide (clamp hi < f))]) ∧ Below w.heap.size w w' := by
  have hc1 : min (max lo (-4194304)) 4194304 = clamp lo := rfl
  have hc2 : min (max hi (-4194304)) 4194304 = clamp hi := rfl
  generalize clamp lo = c1 at *
  generalize clamp hi = c2 at *
  have a1 := L5.new w ⟨a, b, c, d, no⟩ 66
  have b1 := below_al w (.cells #[.int .i64 a, .int .i64 b, .int .i64 c, .int .i64 d, .bool no] 66)
  have s1 : (w.alloc (.cells #[.int .i64 a, .int .i64 b, .int .i64 c, .int .i64 d, .bool no] 66)).heap.size = w.heap.size + 1 := by simp
  simp only at a1
  go_enter Try.func42, Try.ntmps42
  go_upto_region 1 with fail
  generalize w.alloc (.cells #[.int .i64 a, .int .i64 b, .int .i64 c, .int .i64 d, .bool no] 66) = v1 at *
  have a2 := L5.new v1 ⟨0, 0, 0, 0, false⟩ 66
  have b2 := below_al v1 (.cells #[.int .i64 0, .int .i64 0, .int .i64 0, .int .i64 0, .bool false] 66)
  simp only at a2
  rw [s1] at a2
  have K1 := Lib.hid (a1.later b2)
  have K2 := Lib.hid a2
  have G := Lib.hid (below_on b1 b2)
  clear a1 a2 b1 b2 s1
  generalize v1.alloc (.cells #[.int .i64 0, .int .i64 0, .int .i64 0, .int .i64 0, .bool false] 66) = v2 at *
  obtain ⟨c0, c1', c2', c3, c4, yc⟩ := K1.out
  obtain ⟨k0, k1, k2, k3, k4, yk⟩ := K2.out
  simp only at c0 c1' c2' c3 c4 k0 k1 k2 k3 k4
  have FIN : Hid (∀ z : Bool, L5 ((((((v2.setCell ⟨w.heap.size, 4, none⟩ (.bool z)).setCell ⟨w.heap.size + 1, 0, none⟩ (.int .i64 a)).setCell ⟨w.heap.size + 1, 1, none⟩ (.int .i64 b)).setCell ⟨w.heap.size + 1, 2, none⟩ (.int .i64 c)).setCell ⟨w.heap.size + 1, 3, none⟩ (.int .i64 d)).setCell ⟨w.heap.size + 1, 4, none⟩ (.bool z)) (w.heap.size + 1) ⟨a, b, c, d, z⟩ ∧
      Below w.heap.size w ((((((v2.setCell ⟨w.heap.size, 4, none⟩ (.bool z)).setCell ⟨w.heap.size + 1, 0, none⟩ (.int .i64 a)).setCell ⟨w.heap.size + 1, 1, none⟩ (.int .i64 b)).setCell ⟨w.heap.size + 1, 2, none⟩ (.int .i64 c)).setCell ⟨w.heap.size + 1, 3, none⟩ (.int .i64 d)).setCell ⟨w.heap.size + 1, 4, none⟩ (.bool z))) :=
    Lib.hid (fun z => btw_end (M := ⟨a, b, c, d, z⟩) (K2.out.other (by omega) (o := 4) (.bool z)) (G.out.setCell (p := ⟨w.heap.size, 4, none⟩) (by show w.heap.size ≤ w.heap.size; omega) (.bool z)) ⟨a, b, c, d, z⟩ rfl)
  clear K1 K2 G
  cases no
  · by_cases e1 : f < c1
    · have d1 : decide (f < c1) = true := by simpa using e1
      obtain ⟨⟨r0, r1, r2, r3, r4, -⟩, g⟩ := FIN.out true
      clear FIN e1
      go_wp2
      exact bodyPost_ret (v := .agg #[.int .i64 a, .int .i64 b, .int .i64 c, .int .i64 d, .bool true]) (by simp [results, Try.results42, go_sem, r0, r1, r2, r3, r4]) rfl ⟨by first | rfl | (rw [d1]; rfl), g⟩
    · have d1 : decide (f < c1) = false := by simpa using e1
      obtain ⟨⟨r0, r1, r2, r3, r4, -⟩, g⟩ := FIN.out (decide (c2 < f))
      clear FIN e1
      go_wp2
      exact bodyPost_ret (v := .agg #[.int .i64 a, .int .i64 b, .int .i64 c, .int .i64 d, .bool (decide (c2 < f))]) (by simp [results, Try.results42, go_sem, r0, r1, r2, r3, r4]) rfl ⟨by first | rfl | (rw [d1]; rfl), g⟩
  · obtain ⟨⟨r0, r1, r2, r3, r4, -⟩, g⟩ := FIN.out true
    clear FIN
    go_wp2
    exact bodyPost_ret (v := .agg #[.int .i64 a, .int .i64 b, .int .i64 c, .int .i64 d, .bool true]) (by simp [results, Try.results42, go_sem, r0, r1, r2, r3, r4]) rfl ⟨rfl, g⟩
set_option maxRecDepth 100000 in
set_option maxHeartbeats 16000000 in
theorem btw_diff (a b c d : Int) (no : Bool) (f t lo hi : Int) (w : World) (ha : I64 a) (hb : I64 b) (hc : I64 c) (hd : I64 d) (hf : -2097152 ≤ f ∧ f ≤ 2097152) (ht : -2097152 ≤ t ∧ t ≤ 2097152) (hft : f ≠ t) :
    Calls Try.prog 42 #[.agg #[.int .i64 a, .int .i64 b, .int .i64 c, .int .i64 d, .bool no], .int .i64 f, .int .i64 t, .int .i64 lo, .int .i64 hi] w
      fun e w' => e = .returned (.agg #[.int .i64 (latN a b (loN f t lo hi) (loD f t lo hi)), .int .i64 (latD a b (loN f t lo hi) (loD f t lo hi)), .int .i64 (sooN c d (hiN f t lo hi) (hiD f t lo hi)), .int .i64 (sooD c d (hiN f t lo hi) (hiD f t lo hi)), .bool no]) ∧ Below w.heap.size w w' := by
  have hc1 : min (max lo (-4194304)) 4194304 = clamp lo := rfl
  have hc2 : min (max hi (-4194304)) 4194304 = clamp hi := rfl
  have i1 := clamp_in lo
  have i2 := clamp_in hi
  unfold loN loD hiN hiD
  generalize clamp lo = c1 at *
  generalize clamp hi = c2 at *
  have MK1 := mk_small (a := c1 - f) (b := t - f) (by omega) (by omega) (by omega)
  have MK2 := mk_small (a := c2 - f) (b := t - f) (by omega) (by omega) (by omega)
  have M1 := Lib.hid (fun u => rmake_ok (c1 - f) (t - f) u (by unfold I64; omega) (by unfold I64; omega) (by omega))
  have M2 := Lib.hid (fun u => rmake_ok (c2 - f) (t - f) u (by unfold I64; omega) (by unfold I64; omega) (by omega))
  unfold FracOut at M1 M2
  rw [MK1.1] at M1
  rw [MK2.1] at M2
  obtain ⟨-, q1, q2⟩ := MK1
  obtain ⟨-, q3, q4⟩ := MK2
  generalize mkN (c1 - f) (t - f) = sn at *
  generalize mkD (c1 - f) (t - f) = sd' at *
  generalize mkN (c2 - f) (t - f) = tn at *
  generalize mkD (c2 - f) (t - f) = td at *
  have j1 : I64 sn := by unfold I64; omega
  have j2 : I64 sd' := by unfold I64; omega
  have j3 : I64 tn := by unfold I64; omega
  have j4 : I64 td := by unfold I64; omega
  have S1 := Lib.hid (fun u => sooner_any sn sd' tn td u j1 j2 j3 j4)
  have S3 := Lib.hid (fun u => later_any sn sd' tn td u j1 j2 j3 j4)
  obtain ⟨k1, k2⟩ := soo_i64 j1 j2 j3 j4
  obtain ⟨k3, k4⟩ := lat_i64 j1 j2 j3 j4
  generalize sooN sn sd' tn td = un at *
  generalize sooD sn sd' tn td = ud at *
  generalize latN sn sd' tn td = vn at *
  generalize latD sn sd' tn td = vd at *
  have S2 := Lib.hid (fun u => later_any a b un ud u ha hb k1 k2)
  have S4 := Lib.hid (fun u => sooner_any c d vn vd u hc hd k3 k4)
  generalize latN a b un ud = rn at *
  generalize latD a b un ud = rd at *
  generalize sooN c d vn vd = pn at *
  generalize sooD c d vn vd = pd at *
  have hft' : (f == t) = false := by simpa using hft
  clear j1 j2 j3 j4 k1 k2 k3 k4 q1 q2 q3 q4 ha hb hc hd hft
  have a1 := L5.new w ⟨a, b, c, d, no⟩ 66
  have b1 := below_al w (.cells #[.int .i64 a, .int .i64 b, .int .i64 c, .int .i64 d, .bool no] 66)
  have s1 : (w.alloc (.cells #[.int .i64 a, .int .i64 b, .int .i64 c, .int .i64 d, .bool no] 66)).heap.size = w.heap.size + 1 := by simp
  simp only at a1
  go_enter Try.func42, Try.ntmps42
  go_upto_region 1 with fail
  generalize w.alloc (.cells #[.int .i64 a, .int .i64 b, .int .i64 c, .int .i64 d, .bool no] 66) = v1 at *
  have a2 := L5.new v1 ⟨0, 0, 0, 0, false⟩ 66
  have b2 := below_al v1 (.cells #[.int .i64 0, .int .i64 0, .int .i64 0, .int .i64 0, .bool false] 66)
  simp only at a2
  rw [s1] at a2
  have K1 := Lib.hid (a1.later b2)
  have K2 := Lib.hid a2
  have G := Lib.hid (below_on b1 b2)
  clear a1 a2 b1 b2 s1
  generalize v1.alloc (.cells #[.int .i64 0, .int .i64 0, .int .i64 0, .int .i64 0, .bool false] 66) = v2 at *
  go_wp2_with fail
  refine (M1.out _).mono ?_
  rintro e w1 ⟨rfl, hb1⟩
  have s2 := below_al w1 (.cells #[.int .i64 sn, .int .i64 sd'] 64)
  have R1 := Lib.hid (Bx.new w1 sn sd' 64)
  have K3 := Lib.hid (K1.out.later (below_on hb1 s2))
  have K4 := Lib.hid (K2.out.later (below_on hb1 s2))
  have G2 := Lib.hid (below_on G.out (below_on hb1 s2))
  clear hb1 s2 K1 K2 G M1 hc1
  go_upto_region 6 with fail
  generalize w1.alloc (.cells #[.int .i64 sn, .int .i64 sd'] 64) = v3 at *
  generalize w1.heap.size = n11 at *
  go_wp2_with fail
  refine (M2.out _).mono ?_
  rintro e w2 ⟨rfl, hb2⟩
  have s2 := below_al w2 (.cells #[.int .i64 tn, .int .i64 td] 64)
  have R2 := Lib.hid (Bx.new w2 tn td 64)
  have R3 := Lib.hid (R1.out.later (below_on hb2 s2))
  have K5 := Lib.hid (K3.out.later (below_on hb2 s2))
  have K6 := Lib.hid (K4.out.later (below_on hb2 s2))
  have G3 := Lib.hid (below_on G2.out (below_on hb2 s2))
  clear hb2 s2 K3 K4 G2 M2 R1 hc2
  go_upto_region 7 with fail
  generalize w2.alloc (.cells #[.int .i64 tn, .int .i64 td] 64) = v4 at *
  generalize w2.heap.size = n13 at *
  obtain ⟨c0, c1', c2', c3, c4, yc⟩ := K5.out
  simp only at c0 c1' c2' c3 c4
  obtain ⟨x0, x1, -⟩ := R3.out
  obtain ⟨y0, y1, -⟩ := R2.out
  refine region_free (P := Try.prog) 13 13 73 64 (.cells #[.int .i64 0, .int .i64 0] 64) (by kernel_rfl) (by decide) (by kernel_rfl) ?_ (by kernel_rfl) (by kernel_rfl) (by intro o ho a v; simp [execOp, ho, go_sem]) ?_
  · rfl
  apply Exists.intro
  refine ⟨?hqA, ?hfA⟩
  case hqA =>
    intro X' hne
    haveI := hne
    simp only [List.take_succ_cons, List.take_zero]
    have L0 := fun m' : LaterX v4 X' => m'.cell c0
    have L1 := fun m' : LaterX v4 X' => m'.cell c1'
    have L2 := fun m' : LaterX v4 X' => m'.cell c2'
    have L3 := fun m' : LaterX v4 X' => m'.cell c3
    have L4 := fun m' : LaterX v4 X' => m'.cell x0
    have L5' := fun m' : LaterX v4 X' => m'.cell x1
    have L6 := fun m' : LaterX v4 X' => m'.cell y0
    have L7 := fun m' : LaterX v4 X' => m'.cell y1
    (go_big_quiet_want; go_big_quiet_op; go_big_quiet_on)
    (go_big_quiet_want; go_big_quiet_op; go_big_quiet_on)
    (go_big_quiet_want; go_big_quiet_op; go_big_quiet_on)
    (go_big_quiet_want; go_big_quiet_op; go_big_quiet_on)
    (go_big_quiet_want; go_big_quiet_op; go_big_quiet_call (exact laterX_of (S1.out _)))
    (go_big_quiet_want; go_big_quiet_op; go_big_quiet_call (exact laterX_of (S2.out _)))
    (go_big_quiet_want; go_big_quiet_op; go_big_quiet_on)
    (go_big_quiet_want; go_big_quiet_op; go_big_quiet_on)
    (go_big_quiet_want; go_big_quiet_op; go_big_quiet_on)
    (go_big_quiet_want; go_big_quiet_op; go_big_quiet_on)
    (go_big_quiet_want; go_big_quiet_op; go_big_quiet_call (exact laterX_of (S3.out _)))
    (go_big_quiet_want; go_big_quiet_op; go_big_quiet_call (exact laterX_of (S4.out _)))
    (go_big_quiet_want; go_big_quiet_op; go_big_quiet_on)
    exact wpQuiet_nil rfl
  intro G' w8 hb hG hd
  simp only [List.take_succ_cons, List.take_zero, List.drop_succ_cons, List.drop_zero, ptrs, putsL]
  have K7 := Lib.hid (K5.out.later hb)
  have K8 := Lib.hid (K6.out.later hb)
  have G4 := Lib.hid (below_on G3.out hb)
  clear hG hd hb K5 K6 G3 R2 R3 S1 S2 S3 S4 c0 c1' c2' c3 c4 yc x0 x1 y0 y1
  have FIN := btw_end (M := ⟨rn, rd, pn, pd, no⟩) ((((K8.out.other (by omega) (c := w.heap.size) (o := 0) (.int .i64 rn)).other (by omega) (c := w.heap.size) (o := 1) (.int .i64 rd)).other (by omega) (c := w.heap.size) (o := 2) (.int .i64 pn)).other (by omega) (c := w.heap.size) (o := 3) (.int .i64 pd))
    ((((G4.out.setCell (p := ⟨w.heap.size, 0, none⟩) (Nat.le_refl _) (.int .i64 rn)).setCell (p := ⟨w.heap.size, 1, none⟩) (Nat.le_refl _) (.int .i64 rd)).setCell (p := ⟨w.heap.size, 2, none⟩) (Nat.le_refl _) (.int .i64 pn)).setCell (p := ⟨w.heap.size, 3, none⟩) (Nat.le_refl _) (.int .i64 pd)) ⟨rn, rd, pn, pd, no⟩ rfl
  obtain ⟨⟨r0, r1, r2, r3, r4, -⟩, g⟩ := FIN
  obtain ⟨c0, c1', c2', c3, c4, yc⟩ := K7.out
  obtain ⟨k0, k1, k2, k3, k4, yk⟩ := K8.out
  simp only at c0 c1' c2' c3 c4 k0 k1 k2 k3 k4 r0 r1 r2 r3 r4
  clear K7 K8 G4
  go_wp2
  exact bodyPost_ret (v := .agg #[.int .i64 rn, .int .i64 rd, .int .i64 pn, .int .i64 pd, .bool no]) (by simp [results, Try.results42, go_sem, r0, r1, r2, r3, r4]) rfl ⟨rfl, g⟩
end Go.Proofs.Ytpdiojndfckmfaa
end
section
namespace Go.Proofs.Ytpdiojndfckmfaa
open Go.RowKit
open Num Geo Cut
set_option linter.unusedVariables false
/-- the four boxes of at, and its result -/
def A4 (v : World) (n : Nat) (ax ay bx by_ N D x0 y0 x1 y1 : Int) : Prop := Bx v n ax ay ∧ Bx v (n + 1) bx by_ ∧ Bx v (n + 1 + 1) N D ∧ Pl v (n + 1 + 1 + 1) x0 y0 x1 y1 ∧ Bx v (n + 1 + 1 + 1 + 1) 0 0
theorem A4.later {v u : World} {n : Nat} {ax ay bx by_ N D x0 y0 x1 y1 : Int} (h : A4 v n ax ay bx by_ N D x0 y0 x1 y1) (hb : Below v.heap.size v u) : A4 u n ax ay bx by_ N D x0 y0 x1 y1 := ⟨h.1.later hb, h.2.1.later hb, h.2.2.1.later hb, h.2.2.2.1.later hb, h.2.2.2.2.later hb⟩
theorem A4.new (w : World) (ax ay bx by_ N D x0 y0 x1 y1 : Int) :
    A4 (((((w.alloc (.cells #[.int .i64 ax, .int .i64 ay] 23)).alloc (.cells #[.int .i64 bx, .int .i64 by_] 23)).alloc (.cells #[.int .i64 N, .int .i64 D] 64)).alloc (.cells #[.int .i64 x0, .int .i64 y0, .int .i64 x1, .int .i64 y1] 25)).alloc (.cells #[.int .i64 0, .int .i64 0] 23)) w.heap.size ax ay bx by_ N D x0 y0 x1 y1 ∧
    Below w.heap.size w (((((w.alloc (.cells #[.int .i64 ax, .int .i64 ay] 23)).alloc (.cells #[.int .i64 bx, .int .i64 by_] 23)).alloc (.cells #[.int .i64 N, .int .i64 D] 64)).alloc (.cells #[.int .i64 x0, .int .i64 y0, .int .i64 x1, .int .i64 y1] 25)).alloc (.cells #[.int .i64 0, .int .i64 0] 23)) := by
  have s1 : (w.alloc (.cells #[.int .i64 ax, .int .i64 ay] 23)).heap.size = w.heap.size + 1 := by simp
  have a1 := Bx.new w ax ay 23
  have b1 := below_al w (.cells #[.int .i64 ax, .int .i64 ay] 23)
  generalize w.alloc (.cells #[.int .i64 ax, .int .i64 ay] 23) = v1 at *
  have s2 : (v1.alloc (.cells #[.int .i64 bx, .int .i64 by_] 23)).heap.size = w.heap.size + 1 + 1 := by simp [s1]
  have a2 := Bx.new v1 bx by_ 23
  have b2 := below_al v1 (.cells #[.int .i64 bx, .int .i64 by_] 23)
  generalize v1.alloc (.cells #[.int .i64 bx, .int .i64 by_] 23) = v2 at *
  have s3 : (v2.alloc (.cells #[.int .i64 N, .int .i64 D] 64)).heap.size = w.heap.size + 1 + 1 + 1 := by simp [s2]
  have a3 := Bx.new v2 N D 64
  have b3 := below_al v2 (.cells #[.int .i64 N, .int .i64 D] 64)
  generalize v2.alloc (.cells #[.int .i64 N, .int .i64 D] 64) = v3 at *
  have s4 : (v3.alloc (.cells #[.int .i64 x0, .int .i64 y0, .int .i64 x1, .int .i64 y1] 25)).heap.size = w.heap.size + 1 + 1 + 1 + 1 := by simp [s3]
  have a4 := Pl.new v3 x0 y0 x1 y1 25
  have b4 := below_al v3 (.cells #[.int .i64 x0, .int .i64 y0, .int .i64 x1, .int .i64 y1] 25)
  generalize v3.alloc (.cells #[.int .i64 x0, .int .i64 y0, .int .i64 x1, .int .i64 y1] 25) = v4 at *
  have a5 := Bx.new v4 0 0 23
  have b5 := below_al v4 (.cells #[.int .i64 0, .int .i64 0] 23)
  rw [s4] at a5
  rw [s3] at a4
  rw [s2] at a3
  rw [s1] at a2
  exact ⟨⟨(((a1.later b2).later b3).later b4).later b5, ((a2.later b3).later b4).later b5, (a3.later b4).later b5, a4.later b5, a5⟩, below_on (below_on (below_on (below_on b1 b2) b3) b4) b5⟩
/-- the point is written -/
theorem at_end' {w u : World} {n : Nat} {ax ay bx by_ N D x0 y0 x1 y1 : Int} (h : A4 u n ax ay bx by_ N D x0 y0 x1 y1) (hb : Below n w u) (x y : Int) :
    Bx ((u.setCell ⟨n + 1 + 1 + 1 + 1, 0, none⟩ (.int .i64 x)).setCell ⟨n + 1 + 1 + 1 + 1, 1, none⟩ (.int .i64 y)) (n + 1 + 1 + 1 + 1) x y ∧ Below n w ((u.setCell ⟨n + 1 + 1 + 1 + 1, 0, none⟩ (.int .i64 x)).setCell ⟨n + 1 + 1 + 1 + 1, 1, none⟩ (.int .i64 y)) :=
  ⟨h.2.2.2.2.same x y, (hb.setCell (by show n ≤ n + 1 + 1 + 1 + 1; omega) _).setCell (by show n ≤ n + 1 + 1 + 1 + 1; omega) _⟩
set_option maxRecDepth 100000 in
set_option maxHeartbeats 16000000 in
theorem rat_any (ax ay bx by_ N D x0 y0 x1 y1 X Y : Int) (w : World) (hn : Nr ax ay ∧ Nr bx by_) (hN : 0 ≤ N ∧ N ≤ D) (hD : 0 < D ∧ D ≤ 4194304) (hc : AtC ax ay bx by_ N D x0 x1 X Y) :
    Calls Try.prog 44 #[.agg #[.int .i64 ax, .int .i64 ay], .agg #[.int .i64 bx, .int .i64 by_], .agg #[.int .i64 N, .int .i64 D], .agg #[.int .i64 x0, .int .i64 y0, .int .i64 x1, .int .i64 y1]] w
      fun e w' => e = .returned (.agg #[.int .i64 X, .int .i64 Y]) ∧ Below w.heap.size w w' := by
  obtain ⟨⟨n1, n2, n3, n4⟩, ⟨n5, n6, n7, n8⟩⟩ := hn
  have HC := Lib.hid hc
  clear hc
  have p1 := prod_in (a := bx - ax) (b := N) (by omega) (by omega)
  have p2 := prod_in (a := by_ - ay) (b := N) (by omega) (by omega)
  have H0 := Lib.hid (A4.new w ax ay bx by_ N D x0 y0 x1 y1)
  go_enter Try.func44, Try.ntmps44
  go_upto_region 1 with fail
  generalize ((((w.alloc (.cells #[.int .i64 ax, .int .i64 ay] 23)).alloc (.cells #[.int .i64 bx, .int .i64 by_] 23)).alloc (.cells #[.int .i64 N, .int .i64 D] 64)).alloc (.cells #[.int .i64 x0, .int .i64 y0, .int .i64 x1, .int .i64 y1] 25)).alloc (.cells #[.int .i64 0, .int .i64 0] 23) = w0 at *
  obtain ⟨⟨c0, c1, -⟩, ⟨c2, c3, -⟩, ⟨c4, c5, -⟩, -, -⟩ := H0.out.1
  have L0 := fun m : Later w0 => m.cell c0
  have L1 := fun m : Later w0 => m.cell c1
  have L2 := fun m : Later w0 => m.cell c2
  have L3 := fun m : Later w0 => m.cell c3
  have L4 := fun m : Later w0 => m.cell c4
  refine region_later (by kernel_rfl) (by kernel_rfl) ?_
  iterate 18 (go_big_quiet_want; go_big_quiet_op; go_big_quiet_on)
  refine wpQuiet_nil ?_
  refine later_end ?_
  intro k
  have H1 := Lib.hid (H0.out.1.later k.below)
  have G1 := Lib.hid (below_on H0.out.2 k.below)
  clear H0 L0 L1 L2 L3 L4 c0 c1 c2 c3 c4 c5
  generalize k.wd = u at *
  clear k
  unfold AtC at HC
  have r1' : (((bx - ax) * N).tdiv D).natAbs = ((bx - ax) * N).natAbs / D.natAbs := Int.natAbs_tdiv _ _
  have r2' : (((by_ - ay) * N).tdiv D).natAbs = ((by_ - ay) * N).natAbs / D.natAbs := Int.natAbs_tdiv _ _
  have b1 : ((bx - ax) * N).natAbs / D.natAbs ≤ ((bx - ax) * N).natAbs := Nat.div_le_self _ _
  have b2 : ((by_ - ay) * N).natAbs / D.natAbs ≤ ((by_ - ay) * N).natAbs := Nat.div_le_self _ _
  rw [← r1'] at b1
  rw [← r2'] at b2
  clear r1' r2'
  generalize (bx - ax) * N = p at *
  generalize (by_ - ay) * N = q at *
  have rb1 : -17592186044416 ≤ p.tdiv D ∧ p.tdiv D ≤ 17592186044416 := by omega
  have rb2 : -17592186044416 ≤ q.tdiv D ∧ q.tdiv D ≤ 17592186044416 := by omega
  clear b1 b2 p1 p2
  have hD0 : ¬ D = 0 := by omega
  obtain ⟨⟨c0, c1, -⟩, ⟨c2, c3, -⟩, ⟨c4, c5, -⟩, ⟨x0', x1', x2', x3', -⟩, ⟨r0, r1, yr⟩⟩ := H1.out
  clear hN hD
  rcases HC.out with ⟨t1, t2, hX, hY⟩ | ⟨t1, t2, hX, hv, hY⟩ | ⟨t1, hY, hX⟩
  · have hX' : ax + p.tdiv D = X := hX.symm
    have hY' : ay + q.tdiv D = Y := hY.symm
    clear hX hY HC
    go_wp2_with fail
    refine region_free (P := Try.prog) 15 15 109 23 (.cells #[.int .i64 0, .int .i64 0] 23) (by kernel_rfl) (by decide) (by kernel_rfl) ?_ (by kernel_rfl) (by kernel_rfl) alloc_pt ?_
    · rfl
    apply Exists.intro
    refine ⟨?hqA, ?hfA⟩
    case hqA =>
      intro X' hne
      haveI := hne
      simp only [List.take_succ_cons, List.take_zero]
      have L0 := fun m' : LaterX u X' => m'.cell c0
      have L1 := fun m' : LaterX u X' => m'.cell c1
      have L5 := fun m' : LaterX u X' => m'.cell c5
      iterate 15 (go_big_quiet_want; go_big_quiet_op; go_big_quiet_on)
      exact wpQuiet_nil rfl
    intro G' w8 hb hG hd
    simp only [List.take_succ_cons, List.take_zero, List.drop_succ_cons, List.drop_zero, ptrs, putsL]
    have K7 := Lib.hid (H1.out.later hb)
    have G4 := Lib.hid (below_on G1.out hb)
    clear hG hd hb H1 G1 c0 c1 c2 c3 c4 c5 x0' x1' x2' x3' r0 r1 yr hX' hY' t1 t2 rb1 rb2
    obtain ⟨⟨k0, k1, -⟩, g⟩ := at_end' K7.out G4.out X Y
    obtain ⟨-, -, -, -, ⟨r0, r1, yr⟩⟩ := K7.out
    go_wp2
    exact bodyPost_ret (v := .agg #[.int .i64 X, .int .i64 Y]) (by simp [results, Try.results44, go_sem, k0, k1]) rfl ⟨rfl, g⟩
  · have hX' : ax + p.tdiv D = X := hX.symm
    have t2' : (q.tmod D == 0) = false := by simpa using t2
    have hXb : -17592190000000 ≤ X ∧ X ≤ 17592190000000 := by omega
    have AT := Lib.hid (fun v => rAtX_any ax ay bx by_ X v (by unfold I64; omega))
    rw [← hY] at AT
    generalize atE ax ay bx by_ X = EE at *
    clear hX HC t2 hY
    go_wp2_with fail
    have L0 := fun m : Later u => m.cell c0
    have L5 := fun m : Later u => m.cell c5
    refine region_later (by kernel_rfl) (by kernel_rfl) ?_
    iterate 8 (go_big_quiet_want; go_big_quiet_op; go_big_quiet_on)
    refine wpQuiet_nil ?_
    refine later_end ?_
    intro k
    have H2 := Lib.hid (H1.out.later k.below)
    have G2 := Lib.hid (below_on G1.out k.below)
    clear H1 G1 L0 L5 c0 c1 c2 c3 c4 c5 x0' x1' x2' x3' r0 r1 yr hX' t1 t2' rb1 rb2
    generalize k.wd = u2 at *
    clear k
    obtain ⟨⟨c0, c1, -⟩, ⟨c2, c3, -⟩, -, ⟨x0', x1', x2', x3', -⟩, -⟩ := H2.out
    have hv' : (X == x0) = true ∨ ((X == x0) = false ∧ (X == x1) = true) := by
      by_cases h : X = x0
      · exact .inl (by simpa using h)
      · refine .inr ⟨by simpa using h, ?_⟩
        rcases hv with h' | h'
        · exact absurd h' h
        · simpa using h'
    clear hv
    rcases hv' with d1 | ⟨d1, d2⟩
    all_goals
      go_wp2_with fail
      refine (AT.out _).mono ?_
      rintro e w3 ⟨rfl, hb⟩
      have K7 := Lib.hid (H2.out.later hb)
      have G4 := Lib.hid (below_on G2.out hb)
      clear hb H2 G2 c0 c1 c2 c3 x0' x1' x2' x3'
      obtain ⟨⟨k0, k1, -⟩, g⟩ := at_end' K7.out G4.out X Y
      obtain ⟨-, -, -, -, ⟨r0, r1, yr⟩⟩ := K7.out
      go_wp2
      exact bodyPost_ret (v := .agg #[.int .i64 X, .int .i64 Y]) (by simp [results, Try.results44, go_sem, k0, k1]) rfl ⟨rfl, g⟩
  · have hY' : ay + q.tdiv D = Y := hY.symm
    have t1' : (p.tmod D == 0) = false := by simpa using t1
    have hYb : -17592190000000 ≤ Y ∧ Y ≤ 17592190000000 := by omega
    have AT := Lib.hid (fun v => rAtY_any ax ay bx by_ Y v (by unfold I64; omega))
    rw [← hX] at AT
    generalize atE ay ax by_ bx Y = EE at *
    clear hY HC t1 hX
    go_wp2_with fail
    have L0 := fun m : Later u => m.cell c1
    have L5 := fun m : Later u => m.cell c5
    refine region_later (by kernel_rfl) (by kernel_rfl) ?_
    iterate 8 (go_big_quiet_want; go_big_quiet_op; go_big_quiet_on)
    refine wpQuiet_nil ?_
    refine later_end ?_
    intro k
    have H2 := Lib.hid (H1.out.later k.below)
    have G2 := Lib.hid (below_on G1.out k.below)
    clear H1 G1 L0 L5 c0 c1 c2 c3 c4 c5 x0' x1' x2' x3' r0 r1 yr hY' t1' rb1 rb2
    generalize k.wd = u2 at *
    clear k
    obtain ⟨⟨c0, c1, -⟩, ⟨c2, c3, -⟩, -, -, -⟩ := H2.out
    go_wp2_with fail
    refine (AT.out _).mono ?_
    rintro e w3 ⟨rfl, hb⟩
    have K7 := Lib.hid (H2.out.later hb)
    have G4 := Lib.hid (below_on G2.out hb)
    clear hb H2 G2 c0 c1 c2 c3
    obtain ⟨⟨k0, k1, -⟩, g⟩ := at_end' K7.out G4.out X Y
    obtain ⟨-, -, -, -, ⟨r0, r1, yr⟩⟩ := K7.out
    go_wp2
    exact bodyPost_ret (v := .agg #[.int .i64 X, .int .i64 Y]) (by simp [results, Try.results44, go_sem, k0, k1]) rfl ⟨rfl, g⟩
end Go.Proofs.Ytpdiojndfckmfaa
end
section
namespace Go.Proofs.Ytpdiojndfckmfaa
open Go.RowKit
open Num Geo Cut
set_option linter.unusedVariables false
theorem btw_any (L : Lm) (f t lo hi : Int) (w : World) (ha : I64 L.a) (hb : I64 L.b) (hc : I64 L.c) (hd : I64 L.d) (hf : -2097152 ≤ f ∧ f ≤ 2097152) (ht : -2097152 ≤ t ∧ t ≤ 2097152) :
    Calls Try.prog 42 #[.agg #[.int .i64 L.a, .int .i64 L.b, .int .i64 L.c, .int .i64 L.d, .bool L.no], .int .i64 f, .int .i64 t, .int .i64 lo, .int .i64 hi] w
      fun e w' => e = .returned (.agg #[.int .i64 (btw L f t lo hi).a, .int .i64 (btw L f t lo hi).b, .int .i64 (btw L f t lo hi).c, .int .i64 (btw L f t lo hi).d, .bool (btw L f t lo hi).no]) ∧ Below w.heap.size w w' := by
  by_cases h : f = t
  · subst h
    have e : btw L f f lo hi = { L with no := (L.no || decide (f < clamp lo)) || decide (clamp hi < f) } := by unfold btw; rw [if_pos rfl]
    rw [e]
    exact btw_same L.a L.b L.c L.d L.no f lo hi w
  · have e : btw L f t lo hi = ⟨latN L.a L.b (loN f t lo hi) (loD f t lo hi), latD L.a L.b (loN f t lo hi) (loD f t lo hi), sooN L.c L.d (hiN f t lo hi) (hiD f t lo hi), sooD L.c L.d (hiN f t lo hi) (hiD f t lo hi), L.no⟩ := by unfold btw; rw [if_neg h]
    rw [e]
    exact btw_diff L.a L.b L.c L.d L.no f t lo hi w ha hb hc hd hf ht h
theorem vl_i64 {ax ay bx by_ x0 x1 N D : Int} (h : VL ax ay bx by_ x0 x1 N D) : I64 N ∧ I64 D := by
  have := vld_pos h.1
  obtain ⟨-, h2, h3, -⟩ := h
  exact ⟨by unfold I64; omega, by unfold I64; omega⟩
/-- the results are written -/
theorem rclip_end {W u : World} {n : Nat} {ax ay bx by_ x0 y0 x1 y1 : Int} (h : CB W u n ax ay bx by_ x0 y0 x1 y1) (cx cy dx dy : Int) :
    let v := (((u.setCell ⟨n + 1 + 1 + 1, 0, none⟩ (.int .i64 cx)).setCell ⟨n + 1 + 1 + 1, 1, none⟩ (.int .i64 cy)).setCell ⟨n + 1 + 1 + 1 + 1, 0, none⟩ (.int .i64 dx)).setCell ⟨n + 1 + 1 + 1 + 1, 1, none⟩ (.int .i64 dy)
    Bx v (n + 1 + 1 + 1) cx cy ∧ Bx v (n + 1 + 1 + 1 + 1) dx dy ∧ Below n W v := by
  intro v
  refine ⟨?_, ?_, ?_⟩
  · exact ((h.2.2.2.1.same cx cy).other (by omega) _).other (by omega) _
  · exact ((h.2.2.2.2.1.other (by omega) _).other (by omega) _).same dx dy
  · exact (((h.2.2.2.2.2.setCell (by show n ≤ n + 1 + 1 + 1; omega) _).setCell (by show n ≤ n + 1 + 1 + 1; omega) _).setCell (by show n ≤ n + 1 + 1 + 1 + 1; omega) _).setCell (by show n ≤ n + 1 + 1 + 1 + 1; omega) _
/-- the limits' block is written: the others are as they were -/
theorem CB.lim {W u : World} {n g : Nat} {ax ay bx by_ x0 y0 x1 y1 : Int} (h : CB W u n ax ay bx by_ x0 y0 x1 y1) (hg : n + 1 + 1 + 1 + 1 + 1 ≤ g) (K : Lm) :
    CB W (((((u.setCell ⟨g, 0, none⟩ (.int .i64 K.a)).setCell ⟨g, 1, none⟩ (.int .i64 K.b)).setCell ⟨g, 2, none⟩ (.int .i64 K.c)).setCell ⟨g, 3, none⟩ (.int .i64 K.d)).setCell ⟨g, 4, none⟩ (.bool K.no)) n ax ay bx by_ x0 y0 x1 y1 :=
  h.keep ((((((Below.refl _ u).setCell (p := ⟨g, 0, none⟩) hg _).setCell (p := ⟨g, 1, none⟩) hg _).setCell (p := ⟨g, 2, none⟩) hg _).setCell (p := ⟨g, 3, none⟩) hg _).setCell (p := ⟨g, 4, none⟩) hg _)
set_option maxRecDepth 100000 in
set_option maxHeartbeats 16000000 in
theorem rClip_any (ax ay bx by_ x0 y0 x1 y1 : Int) (w : World) :
    Calls Try.prog 19 #[.agg #[.int .i64 ax, .int .i64 ay], .agg #[.int .i64 bx, .int .i64 by_], .agg #[.int .i64 x0, .int .i64 y0, .int .i64 x1, .int .i64 y1]] w
      fun e w' => e = .returned (.tuple #[.agg #[.int .i64 (clX ax ay bx by_ x0 y0 x1 y1), .int .i64 (clY ax ay bx by_ x0 y0 x1 y1)], .agg #[.int .i64 (clZ ax ay bx by_ x0 y0 x1 y1), .int .i64 (clW ax ay bx by_ x0 y0 x1 y1)], .bool (clO ax ay bx by_ x0 y0 x1 y1)]) ∧ Below w.heap.size w w' := by
  have HF := Lib.hid (fun h => cl_far (ax := ax) (ay := ay) (bx := bx) (by_ := by_) x0 y0 x1 y1 h)
  have HV := Lib.hid (fun h => cl_void (ax := ax) (ay := ay) (bx := bx) (by_ := by_) (x0 := x0) (y0 := y0) (x1 := x1) (y1 := y1) h)
  have HR := Lib.hid (fun hn hx hy => ref_clip (ax := ax) (ay := ay) (bx := bx) (by_ := by_) (x0 := x0) (y0 := y0) (x1 := x1) (y1 := y1) hn hx hy (RL ax ay bx by_ x0 y0 x1 y1) rfl)
  have HG := Lib.hid (fun hn => rl_good (ax := ax) (ay := ay) (bx := bx) (by_ := by_) (x0 := x0) (y0 := y0) (x1 := x1) (y1 := y1) hn)
  have HN := Lib.hid (near2_iff ax ay bx by_)
  have HZ := Lib.hid (fun h => cl_none (ax := ax) (ay := ay) (bx := bx) (by_ := by_) (x0 := x0) (y0 := y0) (x1 := x1) (y1 := y1) h)
  have NR := Lib.hid (fun u => (rnear_any [(ax, ay), (bx, by_)] _ 2 _ (by simp) (lit_pts u [(ax, ay), (bx, by_)] #[.int .i64 ax, .int .i64 ay, .int .i64 bx, .int .i64 by_] rfl)))
  generalize clO ax ay bx by_ x0 y0 x1 y1 = o at *
  generalize clX ax ay bx by_ x0 y0 x1 y1 = cx at *
  generalize clY ax ay bx by_ x0 y0 x1 y1 = cy at *
  generalize clZ ax ay bx by_ x0 y0 x1 y1 = dx at *
  generalize clW ax ay bx by_ x0 y0 x1 y1 = dy at *
  have H0 := Lib.hid (W3.new w ax ay bx by_ x0 y0 x1 y1)
  have s3 : (((w.alloc (.cells #[.int .i64 ax, .int .i64 ay] 23)).alloc (.cells #[.int .i64 bx, .int .i64 by_] 23)).alloc (.cells #[.int .i64 x0, .int .i64 y0, .int .i64 x1, .int .i64 y1] 25)).heap.size = w.heap.size + 1 + 1 + 1 := by simp
  go_enter Try.func19, Try.ntmps19
  go_upto_region 1 with fail
  generalize ((w.alloc (.cells #[.int .i64 ax, .int .i64 ay] 23)).alloc (.cells #[.int .i64 bx, .int .i64 by_] 23)).alloc (.cells #[.int .i64 x0, .int .i64 y0, .int .i64 x1, .int .i64 y1] 25) = w0 at *
  obtain ⟨tc, td, tb⟩ := two_new w0 0 0 0 0
  rw [s3] at tc td
  have K0 : Hid (CB w ((w0.alloc (.cells #[.int .i64 0, .int .i64 0] 23)).alloc (.cells #[.int .i64 0, .int .i64 0] 23)) w.heap.size ax ay bx by_ x0 y0 x1 y1) :=
    Lib.hid ⟨H0.out.1.1.later tb, H0.out.1.2.1.later tb, H0.out.1.2.2.later tb, tc, td, below_on H0.out.2 tb⟩
  have s5 : ((w0.alloc (.cells #[.int .i64 0, .int .i64 0] 23)).alloc (.cells #[.int .i64 0, .int .i64 0] 23)).heap.size = w.heap.size + 1 + 1 + 1 + 1 + 1 := by simp [s3]
  clear tc td tb H0 s3
  generalize (w0.alloc (.cells #[.int .i64 0, .int .i64 0] 23)).alloc (.cells #[.int .i64 0, .int .i64 0] 23) = v0 at *
  obtain ⟨⟨c0, c1, -⟩, ⟨c2, c3, -⟩, -, -, -, -⟩ := K0.out
  have NR0 := Lib.hid (NR.out v0)
  rw [s5] at NR0
  have bA := Lib.hid (below_al v0 (.cells #[.int .i64 ax, .int .i64 ay, .int .i64 bx, .int .i64 by_] 23))
  have B0 : Hid (w.heap.size + 1 + 1 + 1 + 1 + 1 ≤ v0.heap.size) := Lib.hid (by omega)
  go_wp2_with fail
  refine NR0.out.mono ?_
  rintro e w1 ⟨rfl, hb⟩
  have hq := below_on bA.out hb
  have K1 := Lib.hid (K0.out.later (by have := B0.out; omega) hq)
  have B1 : Hid (w.heap.size + 1 + 1 + 1 + 1 + 1 ≤ w1.heap.size) := Lib.hid (by have := B0.out; have := hq.size; omega)
  clear hb hq K0 B0 NR0 NR bA s5 c0 c1 c2 c3
  obtain ⟨⟨c0, c1, -⟩, ⟨c2, c3, -⟩, ⟨x0', x1', x2', x3', -⟩, -, -, -⟩ := K1.out
  cases hn : nearL [(ax, ay), (bx, by_)]
  · obtain ⟨rfl, rfl, rfl, rfl, rfl⟩ := HF.out hn
    obtain ⟨⟨k0, k1, -⟩, ⟨k2, k3, -⟩, g⟩ := rclip_end K1.out 0 0 0 0
    obtain ⟨-, -, -, ⟨r0, r1, yr⟩, ⟨s0, s1, ys⟩, -⟩ := K1.out
    clear HF HV HR HG HN HZ B1
    go_wp2
    exact bodyPost_ret (v := .tuple #[.agg #[.int .i64 0, .int .i64 0], .agg #[.int .i64 0, .int .i64 0], .bool false]) (by simp [results, Try.results19, go_sem, k0, k1, k2, k3]) rfl ⟨rfl, g⟩
  by_cases hx : x1 < x0
  · obtain ⟨rfl, rfl, rfl, rfl, rfl⟩ := HV.out (.inl hx)
    have d1 : decide (x1 < x0) = true := by simpa using hx
    obtain ⟨⟨k0, k1, -⟩, ⟨k2, k3, -⟩, g⟩ := rclip_end K1.out 0 0 0 0
    obtain ⟨-, -, -, ⟨r0, r1, yr⟩, ⟨s0, s1, ys⟩, -⟩ := K1.out
    clear HF HV HR HG HN HZ B1 hx
    go_wp2
    exact bodyPost_ret (v := .tuple #[.agg #[.int .i64 0, .int .i64 0], .agg #[.int .i64 0, .int .i64 0], .bool false]) (by simp [results, Try.results19, go_sem, k0, k1, k2, k3]) rfl ⟨rfl, g⟩
  have d1 : decide (x1 < x0) = false := by simpa using hx
  by_cases hy : y1 < y0
  · obtain ⟨rfl, rfl, rfl, rfl, rfl⟩ := HV.out (.inr hy)
    have d2 : decide (y1 < y0) = true := by simpa using hy
    obtain ⟨⟨k0, k1, -⟩, ⟨k2, k3, -⟩, g⟩ := rclip_end K1.out 0 0 0 0
    obtain ⟨-, -, -, ⟨r0, r1, yr⟩, ⟨s0, s1, ys⟩, -⟩ := K1.out
    clear HF HV HR HG HN HZ B1 hy
    go_wp2
    exact bodyPost_ret (v := .tuple #[.agg #[.int .i64 0, .int .i64 0], .agg #[.int .i64 0, .int .i64 0], .bool false]) (by simp [results, Try.results19, go_sem, k0, k1, k2, k3]) rfl ⟨rfl, g⟩
  have d2 : decide (y1 < y0) = false := by simpa using hy
  go_upto_region 3 with fail
  obtain ⟨E1, E2⟩ := HR.out hn (by omega) (by omega)
  obtain ⟨⟨V1, V2⟩, V3, V4, -, -⟩ := HG.out hn
  obtain ⟨na, nb⟩ := HN.out.1 hn
  have HA := Lib.hid na
  have HB := Lib.hid nb
  unfold Nr at na nb
  have BT1 := Lib.hid (fun u => btw_any ⟨0, 1, 1, 1, false⟩ ax bx x0 x1 u (by unfold I64; decide) (by unfold I64; decide) (by unfold I64; decide) (by unfold I64; decide) (by omega) (by omega))
  have BT2 := Lib.hid (fun u => btw_any (btw ⟨0, 1, 1, 1, false⟩ ax bx x0 x1) ay by_ y0 y1 u (vl_i64 V1).1 (vl_i64 V1).2 (vl_i64 V2).1 (vl_i64 V2).2 (by omega) (by omega))
  have hR : btw (btw ⟨0, 1, 1, 1, false⟩ ax bx x0 x1) ay by_ y0 y1 = RL ax ay bx by_ x0 y0 x1 y1 := rfl
  rw [hR] at BT2
  clear hR
  simp only at BT1
  have HE1 := Lib.hid E1
  have HE2 := Lib.hid E2
  have HV3 := Lib.hid V3
  have HV4 := Lib.hid V4
  clear E1 E2 V1 V2 V3 V4 HF HV HR HG HN hx hy na nb hn
  generalize btw ⟨0, 1, 1, 1, false⟩ ax bx x0 x1 = L1 at *
  generalize RL ax ay bx by_ x0 y0 x1 y1 = L2 at *
  have la := L5.new w1 ⟨0, 1, 1, 1, false⟩ 66
  simp only at la
  have LB := Lib.hid la
  have bA := below_al w1 (.cells #[.int .i64 0, .int .i64 1, .int .i64 1, .int .i64 1, .bool false] 66)
  have K2 := Lib.hid (K1.out.later (by have := B1.out; omega) bA)
  have S2 : Hid (w.heap.size + 1 + 1 + 1 + 1 + 1 ≤ (w1.alloc (.cells #[.int .i64 0, .int .i64 1, .int .i64 1, .int .i64 1, .bool false] 66)).heap.size) := Lib.hid (by have := B1.out; have := bA.size; omega)
  clear la bA K1 c0 c1 c2 c3 x0' x1' x2' x3'
  go_upto_region 4 with fail
  generalize w1.alloc (.cells #[.int .i64 0, .int .i64 1, .int .i64 1, .int .i64 1, .bool false] 66) = v4 at *
  generalize w1.heap.size = n9 at *
  obtain ⟨⟨c0, c1, -⟩, ⟨c2, c3, -⟩, ⟨x0', x1', x2', x3', -⟩, -, -, -⟩ := K2.out
  obtain ⟨l0, l1, l2, l3, l4, -⟩ := LB.out
  simp only at l0 l1 l2 l3 l4
  go_wp2_with fail
  refine (BT1.out _).mono ?_
  rintro e w2 ⟨rfl, hb⟩
  have LB2 := Lib.hid (LB.out.later hb)
  have K3 := Lib.hid (K2.out.later (by have := S2.out; omega) hb)
  have S3 : Hid (w.heap.size + 1 + 1 + 1 + 1 + 1 ≤ w2.heap.size) := Lib.hid (by have := S2.out; have := hb.size; omega)
  clear hb LB K2 S2 BT1 c0 c1 c2 c3 x0' x1' x2' x3' l0 l1 l2 l3 l4
  have LB3 := Lib.hid (LB2.out.all L1)
  have K4 := Lib.hid (K3.out.lim B1.out L1)
  have S4 : Hid (w.heap.size + 1 + 1 + 1 + 1 + 1 ≤ (((((w2.setCell ⟨n9, 0, none⟩ (.int .i64 L1.a)).setCell ⟨n9, 1, none⟩ (.int .i64 L1.b)).setCell ⟨n9, 2, none⟩ (.int .i64 L1.c)).setCell ⟨n9, 3, none⟩ (.int .i64 L1.d)).setCell ⟨n9, 4, none⟩ (.bool L1.no)).heap.size) := Lib.hid (by have := S3.out; simpa using this)
  obtain ⟨l0, l1, l2, l3, l4, yl⟩ := LB2.out
  simp only at l0 l1 l2 l3 l4
  clear LB2 K3 S3
  go_upto_region 5 with fail
  generalize ((((w2.setCell ⟨n9, 0, none⟩ (.int .i64 L1.a)).setCell ⟨n9, 1, none⟩ (.int .i64 L1.b)).setCell ⟨n9, 2, none⟩ (.int .i64 L1.c)).setCell ⟨n9, 3, none⟩ (.int .i64 L1.d)).setCell ⟨n9, 4, none⟩ (.bool L1.no) = v5 at *
  clear l0 l1 l2 l3 l4 yl
  obtain ⟨⟨c0, c1, -⟩, ⟨c2, c3, -⟩, ⟨x0', x1', x2', x3', -⟩, -, -, -⟩ := K4.out
  obtain ⟨l0, l1, l2, l3, l4, -⟩ := LB3.out
  go_wp2_with fail
  refine (BT2.out _).mono ?_
  rintro e w3 ⟨rfl, hb⟩
  have LB4 := Lib.hid (LB3.out.later hb)
  have K5 := Lib.hid (K4.out.later (by have := S4.out; omega) hb)
  have S5 : Hid (w.heap.size + 1 + 1 + 1 + 1 + 1 ≤ w3.heap.size) := Lib.hid (by have := S4.out; have := hb.size; omega)
  clear hb LB3 K4 S4 BT2 c0 c1 c2 c3 x0' x1' x2' x3' l0 l1 l2 l3 l4
  have LB5 := Lib.hid (LB4.out.all L2)
  have K6 := Lib.hid (K5.out.lim B1.out L2)
  have S6 : Hid (w.heap.size + 1 + 1 + 1 + 1 + 1 ≤ (((((w3.setCell ⟨n9, 0, none⟩ (.int .i64 L2.a)).setCell ⟨n9, 1, none⟩ (.int .i64 L2.b)).setCell ⟨n9, 2, none⟩ (.int .i64 L2.c)).setCell ⟨n9, 3, none⟩ (.int .i64 L2.d)).setCell ⟨n9, 4, none⟩ (.bool L2.no)).heap.size) := Lib.hid (by have := S5.out; simpa using this)
  obtain ⟨l0, l1, l2, l3, l4, yl⟩ := LB4.out
  clear LB4 K5 S5
  go_upto_region 6 with fail
  generalize ((((w3.setCell ⟨n9, 0, none⟩ (.int .i64 L2.a)).setCell ⟨n9, 1, none⟩ (.int .i64 L2.b)).setCell ⟨n9, 2, none⟩ (.int .i64 L2.c)).setCell ⟨n9, 3, none⟩ (.int .i64 L2.d)).setCell ⟨n9, 4, none⟩ (.bool L2.no) = v6 at *
  clear l0 l1 l2 l3 l4 yl
  obtain ⟨⟨c0, c1, -⟩, ⟨c2, c3, -⟩, ⟨x0', x1', x2', x3', -⟩, -, -, -⟩ := K6.out
  obtain ⟨l0, l1, l2, l3, l4, -⟩ := LB5.out
  cases hno : L2.no
  · rw [hno] at l4
    have CP := Lib.hid (fun u => rcmp_any L2.a L2.b L2.c L2.d u (vl_i64 HV3.out).1 (vl_i64 HV3.out).2 (vl_i64 HV4.out).1 (vl_i64 HV4.out).2)
    have HO := Lib.hid (show o = !decide (0 < cmpF L2.a L2.b L2.c L2.d) by rw [HE1.out, hno]; rfl)
    clear HE1
    generalize cmpF L2.a L2.b L2.c L2.d = cc at *
    go_wp2_with fail
    refine (CP.out _).mono ?_
    rintro e w4 ⟨rfl, hb⟩
    have LB6 := Lib.hid (LB5.out.later hb)
    have K7 := Lib.hid (K6.out.later (by have := S6.out; omega) hb)
    clear hb LB5 K6 S6 CP c0 c1 c2 c3 x0' x1' x2' x3' l0 l1 l2 l3 l4
    by_cases hcc : 0 < cc
    · have d3 : decide (0 < cc) = true := by simpa using hcc
      have ho : o = false := by rw [HO.out, d3]; rfl
      obtain ⟨rfl, rfl, rfl, rfl⟩ := HZ.out ho
      subst ho
      obtain ⟨⟨k0, k1, -⟩, ⟨k2, k3, -⟩, g⟩ := rclip_end K7.out 0 0 0 0
      obtain ⟨-, -, -, ⟨r0, r1, yr⟩, ⟨s0, s1, ys⟩, -⟩ := K7.out
      clear HE2 HO HZ HV3 HV4 HA HB LB6 hcc
      go_wp2
      exact bodyPost_ret (v := .tuple #[.agg #[.int .i64 0, .int .i64 0], .agg #[.int .i64 0, .int .i64 0], .bool false]) (by simp [results, Try.results19, go_sem, k0, k1, k2, k3]) rfl ⟨rfl, g⟩
    · have d3 : decide (0 < cc) = false := by simpa using hcc
      have ho : o = true := by rw [HO.out, d3]; rfl
      obtain ⟨⟨b1, b2⟩, ⟨b3, b4⟩, t1, t2⟩ := HE2.out ho
      subst ho
      have A1 := Lib.hid (fun u => rat_any ax ay bx by_ L2.a L2.b x0 y0 x1 y1 cx cy u ⟨HA.out, HB.out⟩ ⟨b1, b2⟩ ⟨vld_pos HV3.out.1, HV3.out.2.1⟩ t1)
      have A2 := Lib.hid (fun u => rat_any ax ay bx by_ L2.c L2.d x0 y0 x1 y1 dx dy u ⟨HA.out, HB.out⟩ ⟨b3, b4⟩ ⟨vld_pos HV4.out.1, HV4.out.2.1⟩ t2)
      clear b1 b2 b3 b4 t1 t2 HE2 HO HZ HV3 HV4 HA HB hcc
      obtain ⟨⟨c0, c1, -⟩, ⟨c2, c3, -⟩, ⟨x0', x1', x2', x3', -⟩, -, -, -⟩ := K7.out
      obtain ⟨l0, l1, l2, l3, l4, -⟩ := LB6.out
      go_wp2_with fail
      refine region_free (P := Try.prog) 12 12 78 23 (.cells #[.int .i64 0, .int .i64 0] 23) (by kernel_rfl) (by decide) (by kernel_rfl) ?_ (by kernel_rfl) (by kernel_rfl) alloc_pt ?_
      · rfl
      apply Exists.intro
      refine ⟨?hqA, ?hfA⟩
      case hqA =>
        intro X' hne
        haveI := hne
        simp only [List.take_succ_cons, List.take_zero]
        have L0 := fun m' : LaterX w4 X' => m'.cell c0
        have L1 := fun m' : LaterX w4 X' => m'.cell c1
        have L2 := fun m' : LaterX w4 X' => m'.cell c2
        have L3 := fun m' : LaterX w4 X' => m'.cell c3
        have L4 := fun m' : LaterX w4 X' => m'.cell x0'
        have L5 := fun m' : LaterX w4 X' => m'.cell x1'
        have L6 := fun m' : LaterX w4 X' => m'.cell x2'
        have L7 := fun m' : LaterX w4 X' => m'.cell x3'
        have L8 := fun m' : LaterX w4 X' => m'.cell l0
        have L9 := fun m' : LaterX w4 X' => m'.cell l1
        have L10 := fun m' : LaterX w4 X' => m'.cell l2
        have L11 := fun m' : LaterX w4 X' => m'.cell l3
        (go_big_quiet_want; go_big_quiet_op; go_big_quiet_on)
        (go_big_quiet_want; go_big_quiet_op; go_big_quiet_on)
        (go_big_quiet_want; go_big_quiet_op; go_big_quiet_on)
        (go_big_quiet_want; go_big_quiet_op; go_big_quiet_on)
        (go_big_quiet_want; go_big_quiet_op; go_big_quiet_on)
        (go_big_quiet_want; go_big_quiet_op; go_big_quiet_call (exact laterX_of (A1.out _)))
        (go_big_quiet_want; go_big_quiet_op; go_big_quiet_on)
        (go_big_quiet_want; go_big_quiet_op; go_big_quiet_on)
        (go_big_quiet_want; go_big_quiet_op; go_big_quiet_on)
        (go_big_quiet_want; go_big_quiet_op; go_big_quiet_on)
        (go_big_quiet_want; go_big_quiet_op; go_big_quiet_on)
        (go_big_quiet_want; go_big_quiet_op; go_big_quiet_call (exact laterX_of (A2.out _)))
        exact wpQuiet_nil rfl
      intro G w8 hb hG hd
      simp only [List.take_succ_cons, List.take_zero, List.drop_succ_cons, List.drop_zero, ptrs, putsL]
      have K8 := Lib.hid (K7.out.later (by have := cell_lt c0; omega) hb)
      clear hG hd hb K7 LB6 A1 A2 c0 c1 c2 c3 x0' x1' x2' x3' l0 l1 l2 l3 l4
      obtain ⟨⟨k0, k1, -⟩, ⟨k2, k3, -⟩, g⟩ := rclip_end K8.out cx cy dx dy
      obtain ⟨-, -, -, ⟨r0, r1, yr⟩, ⟨s0, s1, ys⟩, -⟩ := K8.out
      clear K8
      go_wp2
      exact bodyPost_ret (v := .tuple #[.agg #[.int .i64 cx, .int .i64 cy], .agg #[.int .i64 dx, .int .i64 dy], .bool true]) (by simp [results, Try.results19, go_sem, k0, k1, k2, k3]) rfl ⟨rfl, g⟩
  · rw [hno] at l4
    have ho : o = false := by rw [HE1.out, hno]; rfl
    obtain ⟨rfl, rfl, rfl, rfl⟩ := HZ.out ho
    subst ho
    obtain ⟨⟨k0, k1, -⟩, ⟨k2, k3, -⟩, g⟩ := rclip_end K6.out 0 0 0 0
    obtain ⟨-, -, -, ⟨r0, r1, yr⟩, ⟨s0, s1, ys⟩, -⟩ := K6.out
    clear HE1 HE2 HZ HV3 HV4 HA HB LB5 S6
    go_wp2
    exact bodyPost_ret (v := .tuple #[.agg #[.int .i64 0, .int .i64 0], .agg #[.int .i64 0, .int .i64 0], .bool false]) (by simp [results, Try.results19, go_sem, k0, k1, k2, k3]) rfl ⟨rfl, g⟩
end Go.Proofs.Ytpdiojndfckmfaa
end
section
namespace Go.Proofs.Ytpdiojndfckmfaa
open Go.RowKit
open Num Geo Cut
set_option linter.unusedVariables false
set_option maxRecDepth 100000 in
set_option maxHeartbeats 16000000 in
theorem clips_law (ax ay bx by_ x0 y0 x1 y1 : Int) (w : World) (g1 : (Lit.int .i64 ax).wf = true) (g2 : (Lit.int .i64 ay).wf = true) (g3 : (Lit.int .i64 bx).wf = true) (g4 : (Lit.int .i64 by_).wf = true)
    (h1 : (Lit.int .i64 x0).wf = true) (h2 : (Lit.int .i64 y0).wf = true) (h3 : (Lit.int .i64 x1).wf = true) (h4 : (Lit.int .i64 y1).wf = true) :
    Calls Try.prog 6 #[.agg #[.int .i64 ax, .int .i64 ay], .agg #[.int .i64 bx, .int .i64 by_], .agg #[.int .i64 x0, .int .i64 y0, .int .i64 x1, .int .i64 y1]] w fun e w' => e = .returned (.bool true) ∧ Below w.heap.size w w' := by
  have C1 := Lib.hid (fun u => clip_nm ax ay bx by_ x0 y0 x1 y1 u (wf64 h1) (wf64 h2) (wf64 h3) (wf64 h4))
  have C2 := Lib.hid (fun u => rClip_any ax ay bx by_ x0 y0 x1 y1 u)
  have AW := Lib.hid awake09
  clear g1 g2 g3 g4 h1 h2 h3 h4
  generalize clO ax ay bx by_ x0 y0 x1 y1 = o at *
  generalize clX ax ay bx by_ x0 y0 x1 y1 = cx at *
  generalize clY ax ay bx by_ x0 y0 x1 y1 = cy at *
  generalize clZ ax ay bx by_ x0 y0 x1 y1 = dx at *
  generalize clW ax ay bx by_ x0 y0 x1 y1 = dy at *
  have eo : (o == o) = true := by simp
  go_enter Try.func6, Try.ntmps6
  go_wp2_with fail
  have H0 := Lib.hid (W3.new w ax ay bx by_ x0 y0 x1 y1)
  generalize ((w.alloc (.cells #[.int .i64 ax, .int .i64 ay] 23)).alloc (.cells #[.int .i64 bx, .int .i64 by_] 23)).alloc (.cells #[.int .i64 x0, .int .i64 y0, .int .i64 x1, .int .i64 y1] 25) = w0 at *
  refine (C1.out _).mono ?_
  rintro e w1 ⟨rfl, hb⟩
  obtain ⟨tc, td, tb⟩ := two_new w1 cx cy dx dy
  have K1 := Lib.hid (H0.out.1.later (below_on hb tb))
  have G1 := Lib.hid (below_on H0.out.2 (below_on hb tb))
  have TC := Lib.hid tc
  have TD := Lib.hid td
  clear hb tc td tb H0 C1
  go_upto_region 2 with fail
  generalize (w1.alloc (.cells #[.int .i64 cx, .int .i64 cy] 23)).alloc (.cells #[.int .i64 dx, .int .i64 dy] 23) = v1 at *
  generalize w1.heap.size = n7 at *
  obtain ⟨⟨c0, c1, -⟩, ⟨c2, c3, -⟩, ⟨c4, c5, c6, c7, -⟩⟩ := K1.out
  go_wp2_with fail
  refine (C2.out _).mono ?_
  rintro e w2 ⟨rfl, hb⟩
  obtain ⟨tp, tq, tb⟩ := two_new w2 cx cy dx dy
  have G2 := Lib.hid (below_on G1.out (below_on hb tb))
  have TC2 := Lib.hid (TC.out.later (below_on hb tb))
  have TD2 := Lib.hid (TD.out.later (below_on hb tb))
  have TP := Lib.hid tp
  have TQ := Lib.hid tq
  clear hb tp tq tb K1 G1 TC TD C2 c0 c1 c2 c3 c4 c5 c6 c7
  go_upto_region 3 with fail
  generalize (w2.alloc (.cells #[.int .i64 cx, .int .i64 cy] 23)).alloc (.cells #[.int .i64 dx, .int .i64 dy] 23) = v2 at *
  generalize w2.heap.size = n10 at *
  obtain ⟨c0, c1, -⟩ := TC2.out
  obtain ⟨c2, c3, -⟩ := TD2.out
  obtain ⟨p0, p1, -⟩ := TP.out
  obtain ⟨q0, q1, -⟩ := TQ.out
  clear TC2 TD2 TP TQ
  cases o
  all_goals
    go_wp2_with fail
    refine (AW.out _).mono ?_
    rintro e u9 ⟨rfl, hb⟩
    have G9 := Lib.hid (below_on G2.out hb)
    clear hb G2 AW c0 c1 c2 c3 p0 p1 q0 q1
    go_wp2
    go_ret
    exact ⟨rfl, G9.out⟩
end Go.Proofs.Ytpdiojndfckmfaa
end
