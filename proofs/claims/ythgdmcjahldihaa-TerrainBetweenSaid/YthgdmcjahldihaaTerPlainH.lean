/- Heights at grid points, and between the corners of a cell. Plain laws. -/
import Derived.Test.YthgdmcjahldihaaTerPlainD
import Derived.Test.YthgdmcjahldihaaNumPlainE
set_option linter.unusedVariables false
namespace Go.Proofs.Ythgdmcjahldihaa.Ter
open Num
theorem mk_nd {T S : Int} (hS : 1 ≤ S) (h : mkE T S = 0) : ∃ g : Int, 0 < g ∧ mkN T S * g = T ∧ mkD T S * g = S ∧ (mkN T S).natAbs ≤ T.natAbs ∧ 1 ≤ mkD T S ∧ mkD T S ≤ S := by
  have hg := gd_pos (a := T) (b := S) (by omega)
  have h1 := upq_mul T S
  have h2 := loq_mul T S
  have h3 := upq_le T S
  have h4 := loq_le T S
  have hok : mkOk T S = true := by
    unfold mkE at h; rw [if_neg (by omega)] at h
    split at h
    · assumption
    · omega
  have hok2 := hok
  unfold mkOk at hok2
  rw [Bool.and_eq_true] at hok2
  have e1 : mkN T S = if ngt T S = true then -(upq T S : Int) else upq T S := by
    unfold mkN; rw [if_pos h]; unfold sVal; rw [if_pos hok2.1]
  have e2 : mkD T S = (loq T S : Int) := by
    unfold mkD; rw [if_pos h]; unfold sVal; rw [if_pos hok2.2, if_neg (by simp)]
  have en : ngt T S = decide (T < 0) := by
    unfold ngt; rw [decide_eq_false (show ¬ S < 0 by omega)]; cases decide (T < 0) <;> rfl
  refine ⟨(gd T S : Int), by omega, ?_, ?_, ?_, ?_, ?_⟩
  · rw [e1, en]
    have c1 : ((upq T S : Int)) * (gd T S : Int) = (T.natAbs : Int) := by rw [← Int.natCast_mul, h1]
    by_cases ht : T < 0
    · rw [if_pos (decide_eq_true ht), Int.neg_mul, c1]; omega
    · rw [if_neg (by simpa using ht), c1]; omega
  · rw [e2, ← Int.natCast_mul, h2]; omega
  · rw [e1]; split <;> omega
  · rw [e2]
    rcases Nat.eq_zero_or_pos (loq T S) with h0 | h0
    · rw [h0, Nat.zero_mul] at h2; omega
    · omega
  · rw [e2]; omega
theorem mk_fit {T S : Int} (hS : 1 ≤ S) (hS' : S ≤ 9223372036854775807) (h1 : -9223372036854775807 ≤ T) (h2 : T ≤ 9223372036854775807) : mkE T S = 0 := by
  have h3 := upq_le T S
  have h4 := loq_le T S
  unfold mkE
  rw [if_neg (by omega), if_pos]
  unfold mkOk sOk
  rw [Bool.and_eq_true]
  constructor
  · split <;> simp <;> omega
  · simp; omega
theorem cmp_lo {l n d g T S : Int} (hg : 0 < g) (h1 : n * g = T) (h2 : d * g = S) (h : l * S ≤ T) : cmpF l 1 n d ≤ 0 := by
  have h3 : l * d ≤ n := by
    rw [← h1, ← h2, ← Int.mul_assoc] at h
    exact Int.le_of_mul_le_mul_right h hg
  unfold cmpF sgnI
  split
  · rw [Int.mul_one]; (repeat' split) <;> omega
  · omega
theorem cmp_hi {l n d g T S : Int} (hg : 0 < g) (h1 : n * g = T) (h2 : d * g = S) (h : T ≤ l * S) : cmpF n d l 1 ≤ 0 := by
  have h3 : n ≤ l * d := by
    rw [← h1, ← h2, ← Int.mul_assoc] at h
    exact Int.le_of_mul_le_mul_right h hg
  unfold cmpF sgnI
  split
  · rw [Int.mul_one]; (repeat' split) <;> omega
  · omega
/-- an interpolated height lies between those of the corners -/
theorem betw {z : Nat → Int} {m i : Nat} {S u v lo hi : Int} (u0 : 0 ≤ u) (u1 : u ≤ S) (v0 : 0 ≤ v) (v1 : v ≤ S)
    (a : lo ≤ z i ∧ z i ≤ hi) (b : lo ≤ z (i + 1) ∧ z (i + 1) ≤ hi) (c : lo ≤ z (i + m) ∧ z (i + m) ≤ hi) (d : lo ≤ z (i + m + 1) ∧ z (i + m + 1) ≤ hi) :
    lo * S ≤ htN z m S i u v ∧ htN z m S i u v ≤ hi * S := by
  have key : ∀ p q r s t o : Int, 0 ≤ s → s ≤ t → t ≤ o → lo ≤ p ∧ p ≤ hi → lo ≤ q ∧ q ≤ hi → lo ≤ r ∧ r ≤ hi → lo * o ≤ p * o + (q - p) * t + (r - q) * s ∧ p * o + (q - p) * t + (r - q) * s ≤ hi * o := by
    intro p q r s t o h0 h1 h2 hp hq hr
    have e : p * o + (q - p) * t + (r - q) * s = p * (o - t) + q * (t - s) + r * s := by grind
    have e1 : lo * o = lo * (o - t) + lo * (t - s) + lo * s := by grind
    have e2 : hi * o = hi * (o - t) + hi * (t - s) + hi * s := by grind
    have a1 := Int.mul_le_mul_of_nonneg_right hp.1 (show 0 ≤ o - t by omega)
    have a2 := Int.mul_le_mul_of_nonneg_right hp.2 (show 0 ≤ o - t by omega)
    have b1 := Int.mul_le_mul_of_nonneg_right hq.1 (show 0 ≤ t - s by omega)
    have b2 := Int.mul_le_mul_of_nonneg_right hq.2 (show 0 ≤ t - s by omega)
    have c1 := Int.mul_le_mul_of_nonneg_right hr.1 h0
    have c2 := Int.mul_le_mul_of_nonneg_right hr.2 h0
    rw [e, e1, e2]; omega
  unfold htN
  split
  · exact key _ _ _ _ _ _ v0 (by omega) u1 a b d
  · exact key _ _ _ _ _ _ u0 (by omega) v1 a c d
theorem mk_whole {a S : Int} (hS : 1 ≤ S) (hS' : S ≤ 1048576) (ha : -10000 ≤ a) (ha' : a ≤ 10000) : mkN (a * S) S = a ∧ mkD (a * S) S = 1 := by
  have p1 : a * S ≤ 10000 * 1048576 := by
    have := Int.mul_le_mul_of_nonneg_right ha' (show 0 ≤ S by omega); omega
  have p2 : -(10000 * 1048576) ≤ a * S := by
    have := Int.mul_le_mul_of_nonneg_right ha (show 0 ≤ S by omega); omega
  have hE := mk_fit (T := a * S) (S := S) hS (by omega) (by omega) (by omega)
  have hgd : gd (a * S) S = S.natAbs := by
    unfold gd; rw [Int.natAbs_mul, Nat.mul_comm]; exact Nat.gcd_eq_right (Nat.dvd_mul_right _ _)
  have hS0 : 0 < S.natAbs := by omega
  have h1 : upq (a * S) S = a.natAbs := by unfold upq; rw [hgd, Int.natAbs_mul, Nat.mul_div_cancel _ hS0]
  have h2 : loq (a * S) S = 1 := by unfold loq; rw [hgd, Nat.div_self hS0]
  have hneg : a * S < 0 ↔ a < 0 := by
    constructor
    · intro h; apply Classical.byContradiction; intro hh
      have := Int.mul_nonneg (show 0 ≤ a by omega) (show 0 ≤ S by omega); omega
    · intro h; exact Int.mul_neg_of_neg_of_pos h (by omega)
  unfold mkN mkD
  rw [if_pos hE, if_pos hE, h1, h2]
  have en : ngt (a * S) S = decide (a < 0) := by
    unfold ngt; rw [decide_eq_false (show ¬ S < 0 by omega), decide_eq_decide.mpr hneg]; cases decide (a < 0) <;> rfl
  rw [en]
  constructor
  · unfold sVal sOk
    by_cases ha0 : a < 0
    · rw [decide_eq_true ha0]; simp; omega
    · rw [decide_eq_false ha0]; simp; omega
  · decide
/-- where a grid point lies in its cell -/
theorem stp_grid {k S M : Int} (hS : 1 ≤ S) (hk : 0 ≤ k) (hk' : k < M) (hM : 2 ≤ M) : (k ≤ M - 2 ∧ stp (k * S) S M = k) ∨ (k = M - 1 ∧ stp (k * S) S M = k - 1) := by
  have e : k * S / S = k := Int.mul_ediv_cancel _ (by omega)
  unfold stp
  rw [e]
  split <;> omega
theorem hg_grid {x y W H S : Int} {n : Nat} {z : Nat → Int} {col row : Int} (h : chk x y W H S n z = 0) (h' : In1 W H col row) :
    hgE x y W H S n z (x + col * S) (y + row * S) = 0 ∧ hgN x y W H S n z (x + col * S) (y + row * S) = z (row * W + col).toNat ∧ hgD x y W H S n z (x + col * S) (y + row * S) = 1 := by
  obtain ⟨⟨g1, g2, ⟨g5, g6⟩, ⟨g7, g8⟩, ⟨g9, g10⟩, g11, g12⟩, hn, hz⟩ := chk_zero h
  obtain ⟨⟨c1, c2⟩, r1, r2⟩ := h'
  have q1 : 0 ≤ col * S := Int.mul_nonneg c1 (by omega)
  have q2 : 0 ≤ row * S := Int.mul_nonneg r1 (by omega)
  have q3 : col * S ≤ (W - 1) * S := Int.mul_le_mul_of_nonneg_right (by omega) (by omega)
  have q4 : row * S ≤ (H - 1) * S := Int.mul_le_mul_of_nonneg_right (by omega) (by omega)
  have hin : Ins x y W H S (x + col * S) (y + row * S) := ⟨⟨by omega, by omega⟩, by omega, by omega⟩
  obtain ⟨e1, e2, e3⟩ := hg_in h hin
  obtain ⟨C, rfl⟩ := Int.eq_ofNat_of_zero_le c1
  obtain ⟨R, rfl⟩ := Int.eq_ofNat_of_zero_le r1
  obtain ⟨m, q, k, r, rfl, rfl, hk, hr, hT⟩ := ins_nat h hin
  rw [show x + (C : Int) * S - x = C * S by omega] at hk hT
  rw [show y + (R : Int) * S - y = R * S by omega] at hr hT
  have hidx : ((R : Int) * m + C).toNat = R * m + C := by
    have : (R : Int) * m + C = ((R * m + C : Nat) : Int) := by push_cast; rfl
    rw [this]; rfl
  have hlt : R * m + C < n := by
    have h1 : R * m + m ≤ q * m := by
      have := Nat.mul_le_mul_right m (show R + 1 ≤ q by omega)
      rw [Nat.add_mul, Nat.one_mul] at this; exact this
    have h2 : n = m * q := by exact_mod_cast hn
    rw [h2, Nat.mul_comm m q]; omega
  have key : hgT x y m q S z (x + (C : Int) * S) (y + (R : Int) * S) = z (R * m + C) * S := by
    rw [hT]
    rcases stp_grid (k := (C : Int)) (M := (m : Int)) g9 c1 c2 g5 with ⟨a1, a2⟩ | ⟨a1, a2⟩ <;> rcases stp_grid (k := (R : Int)) (M := (q : Int)) g9 r1 r2 g7 with ⟨b1, b2⟩ | ⟨b1, b2⟩ <;> rw [a2] at hk <;> rw [b2] at hr
    · obtain rfl : C = k := by omega
      obtain rfl : R = r := by omega
      unfold htN
      rw [if_pos (by omega), show (C : Int) * S - C * S = 0 by omega, show (R : Int) * S - R * S = 0 by omega]
      simp
    · obtain rfl : C = k := by omega
      obtain rfl : R = r + 1 := by omega
      have e0 : ((r + 1 : Nat) : Int) * S - r * S = S := by push_cast; rw [Int.add_mul]; omega
      unfold htN
      rw [e0, show (C : Int) * S - C * S = 0 by omega, if_neg (by omega)]
      have ei : r * m + C + m = (r + 1) * m + C := by rw [Nat.add_mul, Nat.one_mul]; omega
      rw [ei, Int.mul_zero, Int.add_zero]
      grind
    · obtain rfl : C = k + 1 := by omega
      obtain rfl : R = r := by omega
      have e0 : ((k + 1 : Nat) : Int) * S - k * S = S := by push_cast; rw [Int.add_mul]; omega
      unfold htN
      rw [e0, show (R : Int) * S - R * S = 0 by omega, if_pos (by omega), Int.mul_zero, Int.add_zero]
      have ei : R * m + k + 1 = R * m + (k + 1) := by omega
      rw [ei]
      grind
    · obtain rfl : C = k + 1 := by omega
      obtain rfl : R = r + 1 := by omega
      have e0 : ((k + 1 : Nat) : Int) * S - k * S = S := by push_cast; rw [Int.add_mul]; omega
      have e1 : ((r + 1 : Nat) : Int) * S - r * S = S := by push_cast; rw [Int.add_mul]; omega
      unfold htN
      rw [e0, e1, if_pos (by omega)]
      have ei : r * m + k + m + 1 = (r + 1) * m + (k + 1) := by rw [Nat.add_mul, Nat.one_mul]; omega
      rw [ei]
      grind
  obtain ⟨z1, z2⟩ := hz _ hlt
  obtain ⟨w1, w2⟩ := mk_whole g9 g10 z1 z2
  refine ⟨e1, ?_, ?_⟩
  · rw [e2, key, w1, hidx]
  · rw [e3, key, w2]
/-- a point of a valid grid: its cell, and that its height lies between those of the corners -/
theorem hg_cell {x y W H S : Int} {n : Nat} {z : Nat → Int} {px py : Int} (h : chk x y W H S n z = 0) (h' : Ins x y W H S px py) :
    ∃ m q k r : Nat, W = m ∧ H = q ∧ stp (px - x) S W = k ∧ stp (py - y) S H = r ∧ k + 2 ≤ m ∧ r + 2 ≤ q ∧ n = m * q ∧ r * m + k + m + 1 < n ∧
      (-10485760000 ≤ hgN x y W H S n z px py ∧ hgN x y W H S n z px py ≤ 10485760000) ∧ (1 ≤ hgD x y W H S n z px py ∧ hgD x y W H S n z px py ≤ 1048576) ∧
      ∀ lo hi : Int, (lo ≤ z (r * m + k) ∧ z (r * m + k) ≤ hi) → (lo ≤ z (r * m + k + 1) ∧ z (r * m + k + 1) ≤ hi) → (lo ≤ z (r * m + k + m) ∧ z (r * m + k + m) ≤ hi) → (lo ≤ z (r * m + k + m + 1) ∧ z (r * m + k + m + 1) ≤ hi) →
        cmpF lo 1 (hgN x y W H S n z px py) (hgD x y W H S n z px py) ≤ 0 ∧ cmpF (hgN x y W H S n z px py) (hgD x y W H S n z px py) hi 1 ≤ 0 := by
  obtain ⟨⟨g1, g2, ⟨g5, g6⟩, ⟨g7, g8⟩, ⟨g9, g10⟩, g11, g12⟩, hn, hz⟩ := chk_zero h
  obtain ⟨e1, e2, e3⟩ := hg_in h h'
  obtain ⟨m, q, k, r, rfl, rfl, hk, hr, hT⟩ := ins_nat h h'
  obtain ⟨⟨i1, i2⟩, i3, i4⟩ := h'
  obtain ⟨k1, k2, k3, k4⟩ := stp_facts (X := px - x) (S := S) (M := m) (by omega) (by omega) g5 g9 hk
  obtain ⟨r1, r2, r3, r4⟩ := stp_facts (X := py - y) (S := S) (M := q) (by omega) (by omega) g7 g9 hr
  have hnn : n = m * q := by exact_mod_cast hn
  have hlt : r * m + k + m + 1 < n := by
    have h1 : (r + 2) * m ≤ q * m := Nat.mul_le_mul_right m (by omega)
    rw [Nat.add_mul] at h1
    rw [hnn, Nat.mul_comm m q]; omega
  have B : ∀ lo hi : Int, (lo ≤ z (r * m + k) ∧ z (r * m + k) ≤ hi) → (lo ≤ z (r * m + k + 1) ∧ z (r * m + k + 1) ≤ hi) → (lo ≤ z (r * m + k + m) ∧ z (r * m + k + m) ≤ hi) → (lo ≤ z (r * m + k + m + 1) ∧ z (r * m + k + m + 1) ≤ hi) →
      lo * S ≤ hgT x y m q S z px py ∧ hgT x y m q S z px py ≤ hi * S := by
    intro lo hi a b c d
    rw [hT]
    exact betw (by omega) (by omega) (by omega) (by omega) a b c d
  obtain ⟨t1, t2⟩ := B (-10000) 10000 (hz _ (by omega)) (hz _ (by omega)) (hz _ (by omega)) (hz _ hlt)
  have hE := mk_fit (T := hgT x y m q S z px py) (S := S) g9 (by omega) (by omega) (by omega)
  obtain ⟨g, p1, p2, p3, p4, p5, p6⟩ := mk_nd g9 hE
  rw [e2, e3]
  refine ⟨m, q, k, r, rfl, rfl, hk, hr, by omega, by omega, hnn, hlt, ⟨by omega, by omega⟩, ⟨p5, by omega⟩, ?_⟩
  intro lo hi a b c d
  obtain ⟨s1, s2⟩ := B lo hi a b c d
  exact ⟨cmp_lo p1 p2 p3 s1, cmp_hi p1 p2 p3 s2⟩
end Go.Proofs.Ythgdmcjahldihaa.Ter
