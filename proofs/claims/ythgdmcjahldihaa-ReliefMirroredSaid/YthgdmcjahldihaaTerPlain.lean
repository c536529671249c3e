/- Plain words for height grids: when a grid is valid, and what its check returns. No program in sight. -/
namespace Go.Proofs.Ythgdmcjahldihaa.Ter

/-- the numbers of a grid are in their ranges -/
def Geo (x y W H S : Int) : Prop :=
  (-1048576 ≤ x ∧ x ≤ 1048576) ∧ (-1048576 ≤ y ∧ y ≤ 1048576) ∧ (2 ≤ W ∧ W ≤ 64) ∧ (2 ≤ H ∧ H ≤ 64) ∧ (1 ≤ S ∧ S ≤ 1048576) ∧
  (-1048576 ≤ x + (W - 1) * S ∧ x + (W - 1) * S ≤ 1048576) ∧ (-1048576 ≤ y + (H - 1) * S ∧ y + (H - 1) * S ≤ 1048576)
instance (x y W H S : Int) : Decidable (Geo x y W H S) := by unfold Geo; infer_instance
/-- all heights are in their range -/
def Low (n : Nat) (z : Nat → Int) : Prop := ∀ j, j < n → -10000 ≤ z j ∧ z j ≤ 10000
instance (n : Nat) (z : Nat → Int) : Decidable (Low n z) := by unfold Low; infer_instance
/-- what Check returns -/
def chk (x y W H S : Int) (n : Nat) (z : Nat → Int) : Int :=
  if Geo x y W H S then (if (n : Int) = W * H then (if Low n z then 0 else 2) else 1) else 2

theorem chk_bad {x y W H S : Int} {n : Nat} {z : Nat → Int} (h : ¬ Geo x y W H S) : chk x y W H S n z = 2 := by unfold chk; rw [if_neg h]
theorem chk_arg {x y W H S : Int} {n : Nat} {z : Nat → Int} (h : Geo x y W H S) (h' : (n : Int) ≠ W * H) : chk x y W H S n z = 1 := by unfold chk; rw [if_pos h, if_neg h']
theorem chk_low {x y W H S : Int} {n : Nat} {z : Nat → Int} (h : Geo x y W H S) (h' : (n : Int) = W * H) {j : Nat} (hj : j < n) (hz : ¬ (-10000 ≤ z j ∧ z j ≤ 10000)) : chk x y W H S n z = 2 := by
  unfold chk; rw [if_pos h, if_pos h', if_neg]; exact fun hl => hz (hl j hj)
theorem chk_ok {x y W H S : Int} {n : Nat} {z : Nat → Int} (h : Geo x y W H S) (h' : (n : Int) = W * H) (hz : Low n z) : chk x y W H S n z = 0 := by
  unfold chk; rw [if_pos h, if_pos h', if_pos hz]
theorem chk_zero {x y W H S : Int} {n : Nat} {z : Nat → Int} (h : chk x y W H S n z = 0) : Geo x y W H S ∧ (n : Int) = W * H ∧ Low n z := by
  unfold chk at h
  split at h
  · rename_i hg
    split at h
    · rename_i hn
      split at h
      · rename_i hl; exact ⟨hg, hn, hl⟩
      · cases h
    · cases h
  · cases h
theorem chk_cases (x y W H S : Int) (n : Nat) (z : Nat → Int) : chk x y W H S n z = 0 ∨ chk x y W H S n z = 1 ∨ chk x y W H S n z = 2 := by
  unfold chk
  split
  · split
    · split <;> simp
    · simp
  · simp
/-- what Value returns -/
def In1 (W H col row : Int) : Prop := (0 ≤ col ∧ col < W) ∧ (0 ≤ row ∧ row < H)
instance (W H col row : Int) : Decidable (In1 W H col row) := by unfold In1; infer_instance
def vlE (x y W H S : Int) (n : Nat) (z : Nat → Int) (col row : Int) : Int :=
  if chk x y W H S n z = 0 then (if In1 W H col row then 0 else 7) else chk x y W H S n z
def vlV (x y W H S : Int) (n : Nat) (z : Nat → Int) (col row : Int) : Int :=
  if vlE x y W H S n z col row = 0 then z (row * W + col).toNat else 0
theorem vl_err {x y W H S : Int} {n : Nat} {z : Nat → Int} {col row : Int} (h : chk x y W H S n z ≠ 0) :
    vlE x y W H S n z col row = chk x y W H S n z ∧ vlV x y W H S n z col row = 0 := by
  have e : vlE x y W H S n z col row = chk x y W H S n z := by unfold vlE; rw [if_neg h]
  exact ⟨e, by unfold vlV; rw [e, if_neg h]⟩
theorem vl_out {x y W H S : Int} {n : Nat} {z : Nat → Int} {col row : Int} (h : chk x y W H S n z = 0) (h' : ¬ In1 W H col row) :
    vlE x y W H S n z col row = 7 ∧ vlV x y W H S n z col row = 0 := by
  have e : vlE x y W H S n z col row = 7 := by unfold vlE; rw [if_pos h, if_neg h']
  exact ⟨e, by unfold vlV; rw [e]; rfl⟩
theorem vl_in {x y W H S : Int} {n : Nat} {z : Nat → Int} {col row : Int} (h : chk x y W H S n z = 0) (h' : In1 W H col row) :
    vlE x y W H S n z col row = 0 ∧ vlV x y W H S n z col row = z (row * W + col).toNat := by
  have e : vlE x y W H S n z col row = 0 := by unfold vlE; rw [if_pos h, if_pos h']
  exact ⟨e, by unfold vlV; rw [e]; rfl⟩
/-- the product of two small numbers -/
theorem mul_bound {a b A B : Int} (h1 : 0 ≤ a) (h2 : a ≤ A) (h3 : 0 ≤ b) (h4 : b ≤ B) : 0 ≤ a * b ∧ a * b ≤ A * B :=
  ⟨Int.mul_nonneg h1 h3, Int.mul_le_mul h2 h4 h3 (Int.le_trans h1 h2)⟩
/-- a point of the grid has its height -/
theorem in1_facts {x y W H S : Int} {n : Nat} {z : Nat → Int} {col row : Int} (h : chk x y W H S n z = 0) (h' : In1 W H col row) :
    0 ≤ row * W ∧ row * W ≤ 4096 ∧ 0 ≤ row * W + col ∧ row * W + col < n ∧ (row * W + col).toNat < n ∧ 2 ≤ W ∧ W ≤ 64 ∧ 2 ≤ H ∧ H ≤ 64 := by
  obtain ⟨⟨-, -, ⟨g5, g6⟩, ⟨g7, g8⟩, -, -, -⟩, hn, -⟩ := chk_zero h
  obtain ⟨⟨c1, c2⟩, r1, r2⟩ := h'
  have hb := mul_bound (a := row) (b := W) (A := 64) (B := 64) (by omega) (by omega) (by omega) (by omega)
  have h1 : (row + 1) * W ≤ H * W := Int.mul_le_mul_of_nonneg_right (by omega) (by omega)
  rw [Int.add_mul, Int.mul_comm H W, ← hn, Int.one_mul] at h1
  omega
end Go.Proofs.Ythgdmcjahldihaa.Ter
