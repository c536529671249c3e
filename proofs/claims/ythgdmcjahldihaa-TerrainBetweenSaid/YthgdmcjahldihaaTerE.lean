/- The contracts of terrain.line and terrain.Value. -/
import Derived.Test.YthgdmcjahldihaaTerB
import Derived.Test.YthgdmcjahldihaaTerD
namespace Go.Proofs.Ythgdmcjahldihaa
open Go.RowKit
set_option linter.unusedVariables false

theorem ret_sl {a a' : Option Addr} {n n' c c' : Nat} (h : a = a') (h' : n = n') (h'' : c = c') : Ending.returned (.slice a n c) = .returned (.slice a' n' c') := by rw [h, h', h'']
set_option maxHeartbeats 400000 in
theorem line_any (x y H S : Int) (b off n c m r : Nat) (w : World) (hm : 2 ≤ m) (hm' : m ≤ 64) (hr : r ≤ 64) (hl : (r + 1) * m ≤ n) (hn : n ≤ 4200) (hc : n ≤ c) (hcm : c ≤ maxLen) :
    Calls Try.prog 44 #[hgt x y m H S (some ⟨b, off, none⟩) n c, .int .i64 r] w fun e w' => e = .returned (.slice (some ⟨b, off + r * m, none⟩) m m) ∧ Below w.heap.size w w' := by
  unfold hgt
  unfold maxLen at hcm
  have e1 : (r + 1) * m = r * m + m := by rw [Nat.add_mul, Nat.one_mul]
  have p1 : ((r : Int)) * (m : Int) = ((r * m : Nat) : Int) := by push_cast; rfl
  have p2 : ((r : Int) + 1) * (m : Int) = ((r * m + m : Nat) : Int) := by rw [← e1]; push_cast; rfl
  have P1 := Lib.hid p1
  have P2 := Lib.hid p2
  rw [e1] at hl
  have q1 : 0 ≤ (r : Int) * m := by omega
  have q2 : (r : Int) * m ≤ 4200 := by omega
  have q3 : (r : Int) * m < ((r : Int) + 1) * m := by omega
  have q4 : ((r : Int) + 1) * m ≤ 4200 := by omega
  have q5 : ((r : Int) + 1) * m ≤ c := by omega
  clear e1 p1 p2
  go_enter Try.func44, Try.ntmps44
  go_wp2
  go_ret
  exact ⟨ret_sl rfl (by rw [Nat.add_mul]; omega) (by rw [Nat.add_mul]; omega), by go_grown⟩

/-- what the numbers of a point of a valid grid are -/
theorem in1_nat {x y W H S : Int} {n : Nat} {z : Nat → Int} {col row : Int} (h : Ter.chk x y W H S n z = 0) (h' : Ter.In1 W H col row) :
    ∃ m q k r : Nat, W = m ∧ H = q ∧ col = k ∧ row = r ∧ (row * W + col).toNat = r * m + k ∧ (r + 1) * m ≤ n ∧ k < m ∧ r < q ∧ 2 ≤ m ∧ m ≤ 64 ∧ q ≤ 64 ∧ n = m * q := by
  obtain ⟨⟨-, -, ⟨g5, g6⟩, ⟨g7, g8⟩, -, -, -⟩, hn, hz⟩ := Ter.chk_zero h
  obtain ⟨⟨c1, c2⟩, r1, r2⟩ := h'
  obtain ⟨m, rfl⟩ := Int.eq_ofNat_of_zero_le (show 0 ≤ W by omega)
  obtain ⟨q, rfl⟩ := Int.eq_ofNat_of_zero_le (show 0 ≤ H by omega)
  obtain ⟨k, rfl⟩ := Int.eq_ofNat_of_zero_le c1
  obtain ⟨r, rfl⟩ := Int.eq_ofNat_of_zero_le r1
  have hn' : n = m * q := by exact_mod_cast hn
  have hl : (r + 1) * m ≤ q * m := Nat.mul_le_mul_right m (by omega)
  refine ⟨m, q, k, r, rfl, rfl, rfl, rfl, ?_, by rw [hn', Nat.mul_comm m q]; exact hl, by omega, by omega, by omega, by omega, by omega, hn'⟩
  have e : (r : Int) * m + k = ((r * m + k : Nat) : Int) := by push_cast; rfl
  rw [e]; rfl

set_option maxHeartbeats 1000000 in
theorem tValue_err (x y W H S : Int) (A : Option Addr) (n c : Nat) (z : Nat → Int) (col row : Int) (w : World) (hn : n ≤ 4200) (hA : Ints w w.heap.size A n z) (h : Ter.chk x y W H S n z ≠ 0) :
    Calls Try.prog 26 #[hgt x y W H S A n c, .int .i64 col, .int .i64 row] w fun e w' => e = .returned (.tuple #[.int .i64 0, .int .i64 (Ter.chk x y W H S n z)]) ∧ Below w.heap.size w w' := by
  have hb : (Ter.chk x y W H S n z != 0) = true := by simpa using h
  unfold hgt
  go_enter Try.func26, Try.ntmps26
  go_wp2_with fail
  refine (tcheck_any _ _ _ _ _ _ _ _ z _ hn (hA.later (below_box _ _))).mono ?_
  rintro e w1 ⟨rfl, hb1⟩
  have hfin := Lib.hid (below_step (below_box w _) hb1)
  clear hb1
  go_wp2
  go_ret2
  exact ⟨rfl, hfin.out⟩
set_option maxHeartbeats 1000000 in
theorem tValue_out (x y W H S : Int) (A : Option Addr) (n c : Nat) (z : Nat → Int) (col row : Int) (w : World) (hn : n ≤ 4200) (hA : Ints w w.heap.size A n z) (h : Ter.chk x y W H S n z = 0) (h' : ¬ Ter.In1 W H col row) :
    Calls Try.prog 26 #[hgt x y W H S A n c, .int .i64 col, .int .i64 row] w fun e w' => e = .returned (.tuple #[.int .i64 0, .int .i64 7]) ∧ Below w.heap.size w w' := by
  unfold hgt
  have HC := Lib.hid h
  have HI := Lib.hid h'
  clear h h'
  go_enter Try.func26, Try.ntmps26
  go_wp2_with fail
  refine (tcheck_any _ _ _ _ _ _ _ _ z _ hn (hA.later (below_box _ _))).mono ?_
  rintro e w1 ⟨rfl, hb1⟩
  rw [HC.out]
  have hfin := Lib.hid (below_step (below_box w _) hb1)
  obtain ⟨hcl, hfz⟩ := bcell hb1
  clear hb1
  go_wp2_with fail
  all_goals first
    | (exfalso; exact HI.out ⟨⟨by omega, by omega⟩, by omega, by omega⟩)
    | (go_ret2; exact ⟨rfl, hfin.out⟩)
set_option maxHeartbeats 1000000 in
theorem tValue_in (x y W H S : Int) (A : Option Addr) (n c : Nat) (z : Nat → Int) (col row : Int) (w : World) (hn : n ≤ 4200) (hcap : n ≤ c) (hcm : c ≤ maxLen) (hA : Ints w w.heap.size A n z) (h : Ter.chk x y W H S n z = 0) (h' : Ter.In1 W H col row) :
    Calls Try.prog 26 #[hgt x y W H S A n c, .int .i64 col, .int .i64 row] w fun e w' => e = .returned (.tuple #[.int .i64 (z (row * W + col).toNat), .int .i64 0]) ∧ Below w.heap.size w w' := by
  have HC := Lib.hid h
  obtain ⟨m, q, k, r, rfl, rfl, rfl, rfl, hi, hl, k1, r1, m1, m2, q1, hnq⟩ := in1_nat h h'
  rw [hi]
  have hin : r * m + k < n := by rw [Nat.add_mul] at hl; omega
  obtain ⟨b, off, rfl, hb, hcell⟩ := hA (by omega)
  have HA : Ints w w.heap.size (some ⟨b, off, none⟩) n z := fun _ => ⟨b, off, rfl, hb, hcell⟩
  have HX := Lib.hid hcell
  clear h h' hi hcell hA hnq
  unfold hgt
  have d1 : (0 : Int) ≤ (k : Int) := by omega
  have d2 : (k : Int) < (m : Int) := by omega
  have d3 : decide ((m : Int) ≤ k) = false := by simp; omega
  have d4 : decide ((q : Int) ≤ r) = false := by simp; omega
  go_enter Try.func26, Try.ntmps26
  go_wp2_with fail
  refine (tcheck_any _ _ _ _ _ _ _ _ z _ hn (HA.later (below_box _ _))).mono ?_
  rintro e w1 ⟨rfl, hb1⟩
  rw [HC.out]
  have hb0 := Lib.hid (below_step (below_box w _) hb1)
  obtain ⟨hcl, hfz⟩ := bcell hb1
  clear hb1
  go_wp2_with fail
  refine (line_any _ _ _ _ b off n c m r _ m1 m2 (by omega) hl hn hcap hcm).mono ?_
  rintro e w2 ⟨rfl, hb2⟩
  have hfin := Lib.hid (below_step hb0.out hb2)
  have hce := cell_in hfin.out (HX.out (r * m + k) hin) hb
  rw [← Nat.add_assoc] at hce
  clear hb2 hcl hfz
  go_wp2
  go_ret2
  exact ⟨rfl, hfin.out⟩
theorem tValue_any (x y W H S : Int) (A : Option Addr) (n c : Nat) (z : Nat → Int) (col row : Int) (w : World) (hn : n ≤ 4200) (hcap : n ≤ c) (hcm : c ≤ maxLen) (hA : Ints w w.heap.size A n z) :
    Calls Try.prog 26 #[hgt x y W H S A n c, .int .i64 col, .int .i64 row] w fun e w' => e = .returned (.tuple #[.int .i64 (Ter.vlV x y W H S n z col row), .int .i64 (Ter.vlE x y W H S n z col row)]) ∧ Below w.heap.size w w' := by
  by_cases h : Ter.chk x y W H S n z = 0
  · by_cases h' : Ter.In1 W H col row
    · obtain ⟨e1, e2⟩ := Ter.vl_in h h'
      rw [e1, e2]; exact tValue_in x y W H S A n c z col row w hn hcap hcm hA h h'
    · obtain ⟨e1, e2⟩ := Ter.vl_out h h'
      rw [e1, e2]; exact tValue_out x y W H S A n c z col row w hn hA h h'
  · obtain ⟨e1, e2⟩ := Ter.vl_err (col := col) (row := row) h
    rw [e1, e2]; exact tValue_err x y W H S A n c z col row w hn hA h
end Go.Proofs.Ythgdmcjahldihaa
