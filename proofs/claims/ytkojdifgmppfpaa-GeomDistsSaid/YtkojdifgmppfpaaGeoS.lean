/- The contracts of the reference's gcd and square. -/
import Derived.Test.YtkojdifgmppfpaaGeoM
import Derived.Test.YtkojdifgmppfpaaGeoPlainL
import Derived.Laws.BitsAllLaws
namespace Go.Proofs.Ytkojdifgmppfpaa
open Go.RowKit
open Num Geo
set_option linter.unusedVariables false
theorem w64n (a : Nat) (h : a < 9223372036854775808) : wrap64 (a : Int) = (a : Int) := by unfold wrap64; omega
theorem wi64 (a b : Nat) (h : a + b < 9223372036854775808) : IntKind.i64.wrap ((a : Int) + (b : Int)) = ((a + b : Nat) : Int) := by rw [IntKind.wrap_i64]; omega
set_option maxHeartbeats 400000 in
theorem rgcd_any (a b : Nat) (w : World) (ha : a < 9223372036854775808) (hb : b < 9223372036854775808) :
    Calls Try.prog 46 #[.int .i64 a, .int .i64 b] w fun e w' => e = .returned (.int .i64 (Nat.gcd a b)) ∧ ∃ n, w' = w.drewN n := by
  go_enter Try.func46, Try.ntmps46
  go_wp2_with fail
  go_loopw [0, 1] (fun u v wr => ∃ x y : Nat, x < 9223372036854775808 ∧ y < 9223372036854775808 ∧ u = .int .i64 x ∧ v = .int .i64 y ∧ Hid (Nat.gcd x y = Nat.gcd a b) ∧ Hid (∃ n, wr = w.drewN n)) (fun _ v _ => (intOf v).toNat)
  case atStart => exact ⟨a, b, ha, hb, rfl, rfl, Lib.hid rfl, Lib.hid ⟨0, rfl⟩⟩
  case round =>
    obtain ⟨x, y, hx, hy, rfl, rfl, HG, HW⟩ := hrel
    by_cases h0 : y = 0
    · subst h0
      go_wp2
      go_ret
      exact ⟨ret_int (by rw [← HG.out]; simp), HW.out⟩
    · have h1 : (0 : Int) < (y : Int) := by omega
      have h2 : (y : Int) ≠ 0 := by simpa using h0
      have h3 : (1 : Int) ≤ y := by omega
      have hm : x % y < y := Nat.mod_lt _ (by omega)
      have HM := Lib.hid hm
      obtain ⟨z, hz⟩ : ∃ z, x % y = z := ⟨_, rfl⟩
      have E1 : (x : Int) % (y : Int) = (z : Int) := by rw [← hz]; exact (Int.natCast_emod _ _).symm
      have E2 : wrap64 (z : Int) = (z : Int) := w64n z (by omega)
      have HZ := Lib.hid hz
      clear hz hm
      go_wp2_with fail
      go_quiet (fail)
      go_wp2
      go_roundw
      case rel => exact ⟨y, z, hy, by have := HM.out; rw [HZ.out] at this; omega, rfl, by first | rfl | go_num, Lib.hid (by rw [← HG.out, ← HZ.out, Nat.gcd_comm x y, Nat.gcd_rec y x, Nat.gcd_comm]), Lib.hid (by obtain ⟨k, hk⟩ := HW.out; exact ⟨k + nq, by rw [hk, World.drewN_drewN]⟩)⟩
      case measure => have := HM.out; rw [HZ.out] at this; simp [intOf]; omega
def SIp (c n j q r : Nat) : Prop := SI c n (c / 2 ^ j) q r
/-- the bit of a round -/
def bitN (k : Nat) : Nat := if k = 0 then 0 else 2 ^ (k - 1)
theorem bitN_succ (j : Nat) : bitN (j + 1) = 2 ^ j := by unfold bitN; rw [if_neg (by omega)]; rfl
theorem bitN_half (j : Nat) : 2 ^ j / 2 = bitN j := by
  unfold bitN
  split
  · rename_i h; subst h; rfl
  · rename_i h
    obtain ⟨i, rfl⟩ : ∃ i, j = i + 1 := ⟨j - 1, by omega⟩
    rw [Nat.pow_succ, show i + 1 - 1 = i by omega]; omega
theorem pow_le46 {j : Nat} (h : j ≤ 46) : 2 ^ j ≤ 70368744177664 := Nat.pow_le_pow_right (by omega) h
theorem i64_and_nat (a b : Nat) (ha : a < 9223372036854775808) (hb : b < 9223372036854775808) : bits .and .i64 (a : Int) (b : Int) = ((a &&& b : Nat) : Int) := by
  have hx : a &&& b < 2 ^ 63 := Nat.and_lt_two_pow _ (by omega)
  show IntKind.i64.wrap ((BitVec.ofInt 64 (a : Int) &&& BitVec.ofInt 64 (b : Int)).toNat : Int) = _
  rw [BitVec.toNat_and, ofInt_u64 a (by omega), ofInt_u64 b (by omega), IntKind.wrap_i64]
  omega
/-- the test of a bit -/
theorem bit_test (c j : Nat) (hc : c < 9223372036854775808) (hj : j ≤ 46) : (c / 2 ^ j % 2 = 0 ∧ bits .and .i64 (c : Int) ((2 ^ j : Nat) : Int) = 0) ∨ (c / 2 ^ j % 2 = 1 ∧ bits .and .i64 (c : Int) ((2 ^ j : Nat) : Int) = ((2 ^ j : Nat) : Int)) := by
  have h := i64_and_nat c (2 ^ j) hc (by have := pow_le46 hj; omega)
  rw [nat_bit] at h
  rcases Nat.mod_two_eq_zero_or_one (c / 2 ^ j) with h0 | h0
  · left; rw [h0, Nat.zero_mul] at h; exact ⟨h0, h⟩
  · right; rw [h0, Nat.one_mul] at h; exact ⟨h0, h⟩
set_option maxRecDepth 100000 in
set_option maxHeartbeats 2000000 in
theorem rsquare_any (c n : Nat) (w : World) (hc : c ≤ 70368744177664) (hn : 0 < n) (hn' : n ≤ 35184372088832) (hb : c * c / n < 35184372088832) :
    Calls Try.prog 47 #[.int .i64 c, .int .i64 n] w fun e w' => e = .returned (.int .i64 ((c * c / n : Nat) : Int)) ∧ ∃ n, w' = w.drewN n := by
  have HN := Lib.hid hn
  have HB := Lib.hid hb
  have hcn : c / n ≤ c := Nat.div_le_self c n
  have hmn : c % n < n := Nat.mod_lt _ hn
  have ST : Hid (SIp c n 47 0 0) := by
    apply Lib.hid; unfold SIp; rw [Nat.div_eq_of_lt (show c < 2 ^ 47 by omega)]; exact si_start c n
  obtain ⟨D, hD⟩ : ∃ D, c / n = D := ⟨_, rfl⟩
  obtain ⟨M, hM⟩ : ∃ M, c % n = M := ⟨_, rfl⟩
  have E1 : (c : Int) / (n : Int) = (D : Int) := by rw [← hD]; exact (Int.natCast_ediv _ _).symm
  have E2 : (c : Int) % (n : Int) = (M : Int) := by rw [← hM]; exact (Int.natCast_emod _ _).symm
  have HD := Lib.hid hD
  have HM := Lib.hid hM
  rw [hD] at hcn
  rw [hM] at hmn
  have HE3 : Hid (wrap64 (D : Int) = (D : Int)) := Lib.hid (w64n _ (by omega))
  have HE4 : Hid (wrap64 (M : Int) = (M : Int)) := Lib.hid (w64n _ (by omega))
  clear hD hM hb
  have n1 : (1 : Int) ≤ (n : Int) := by omega
  have n2 : (n : Int) ≤ 35184372088832 := by omega
  have n0 : ((n : Int) = 0) = False := by simp; omega
  have c1 : (c : Int) ≤ 70368744177664 := by omega
  have HC := Lib.hid hc
  go_enter Try.func47, Try.ntmps47
  go_wp2_with fail
  go_loopw [5, 6, 7] (fun x y i wr => ∃ k q r : Nat, k ≤ 47 ∧ q < 35184372088832 ∧ r < n ∧ x = .int .i64 q ∧ y = .int .i64 r ∧ i = .int .i64 (bitN k : Nat) ∧ Hid (SIp c n k q r) ∧ Hid (∃ n, wr = w.drewN n)) (fun _ _ i _ => (intOf i).toNat)
  case atStart => exact ⟨47, 0, 0, by omega, by omega, hn, rfl, rfl, rfl, ST, Lib.hid ⟨0, rfl⟩⟩
  case round =>
    obtain ⟨k, q, r, hk, hq, hr, rfl, rfl, rfl, HI, HW⟩ := hrel
    rcases Nat.eq_zero_or_pos k with h0 | h0
    · subst h0
      have PE : Hid (q = c * c / n) := by apply Lib.hid; have h := HI.out; unfold SIp at h; rw [Nat.pow_zero, Nat.div_one] at h; exact h.1
      rw [show bitN 0 = 0 from rfl]
      go_wp2
      go_ret
      exact ⟨ret_int (by rw [PE.out]), HW.out⟩
    · obtain ⟨j, rfl⟩ : ∃ j, k = j + 1 := ⟨k - 1, by omega⟩
      rw [bitN_succ]
      have hj := pow_le46 (show j ≤ 46 by omega)
      have hj0 : 1 ≤ 2 ^ j := Nat.one_le_two_pow
      have TB := bit_test c j (by omega) (by omega)
      have HF := Lib.hid (bitN_half j)
      have HPO := Lib.hid (half_pow c j)
      have HP : Hid (SI c n (c / 2 ^ j) = SI c n (2 * (c / 2 ^ (j + 1)) + c / 2 ^ j % 2)) := Lib.hid (congrArg (SI c n) (half_pow c j))
      have HLE : Hid (c / 2 ^ j ≤ c) := Lib.hid (Nat.div_le_self _ _)
      obtain ⟨m', hm'⟩ : ∃ m', c / 2 ^ j = m' := ⟨_, rfl⟩
      rw [hm'] at TB HPO HP HLE
      have HM' : Hid (∀ x y, SI c n m' x y → SIp c n j x y) := Lib.hid (fun x y h => by unfold SIp; rw [hm']; exact h)
      have HI : Hid (SI c n (c / 2 ^ (j + 1)) q r) := HI
      clear hm'
      generalize c / 2 ^ (j + 1) = m at *
      generalize 2 ^ j = B at *
      obtain ⟨H, hH⟩ : ∃ H, B / 2 = H := ⟨_, rfl⟩
      have E5 : (B : Int) / 2 = (H : Int) := by rw [← hH]; omega
      obtain ⟨Q, hQ⟩ : ∃ Q, 2 * q = Q := ⟨_, rfl⟩
      obtain ⟨R, hR⟩ : ∃ R, 2 * r = R := ⟨_, rfl⟩
      have d1 : 2 * (q : Int) = (Q : Int) := by omega
      have d2 : 2 * (r : Int) = (R : Int) := by omega
      rw [hH] at HF
      have b1 : (1 : Int) ≤ (B : Int) := by omega
      have b0 : ((B : Int) != 0) = true := by simp; omega
      have b2 : ((B : Int) == 0) = false := by simp; omega
      have hQ2 : (Q : Int) ≤ 70368744177664 := by omega
      have hR2 : (R : Int) ≤ 70368744177664 := by omega
      have hHB : H < B := by omega
      have MS := Lib.hid hHB
      rcases TB with ⟨t0, tb⟩ | ⟨t0, tb⟩
      · have S0 := si_zero HN.out HI.out
        rw [hQ, hR] at S0
        have eM : 2 * m + m' % 2 = 2 * m := by omega
        rw [eM] at HP
        have S1 : SI c n m' (Q + R / n) (R % n) := by rw [HP.out]; exact S0
        have SB := si_bound HN.out S1 HLE.out HB.out
        obtain ⟨U, hU⟩ : ∃ U, R / n = U := ⟨_, rfl⟩
        obtain ⟨V, hV⟩ : ∃ V, R % n = V := ⟨_, rfl⟩
        have u1 : (R : Int) / (n : Int) = (U : Int) := by rw [← hU]; exact (Int.natCast_ediv _ _).symm
        have u2 : (R : Int) % (n : Int) = (V : Int) := by rw [← hV]; exact (Int.natCast_emod _ _).symm
        rw [hU, hV] at S1 SB
        have u5 := wi64 Q U (by omega)
        have HU3 : Hid (wrap64 (U : Int) = (U : Int)) := Lib.hid (w64n _ (by omega))
        have HU4 : Hid (wrap64 (V : Int) = (V : Int)) := Lib.hid (w64n _ (by omega))
        have S1 := Lib.hid S1
        have SB := Lib.hid SB
        clear t0 S0 hU hV hQ hR eM HPO HP hH HE3 HE4 E1 E2 hcn hmn
        have u3 := HU3.out
        have u4 := HU4.out
        clear HU3 HU4
        go_wp2_with fail
        go_quiet (fail)
        clear u3 u4 u5
        go_wp2
        go_roundw
        case rel => exact ⟨j, Q + U, V, by omega, SB.out.1, SB.out.2, by go_num, by first | rfl | rw [u2], by rw [HF.out], Lib.hid (HM'.out _ _ S1.out), Lib.hid (by obtain ⟨k, hk⟩ := HW.out; exact ⟨k + nq, by rw [hk, World.drewN_drewN]⟩)⟩
        case measure => simp [intOf]; omega
      · have S0 := si_one HN.out HI.out
        rw [hQ, hR, HD.out, HM.out] at S0
        have eM : 2 * m + m' % 2 = 2 * m + 1 := by omega
        rw [eM] at HP
        obtain ⟨S, hS⟩ : ∃ S, Q + D = S := ⟨_, rfl⟩
        obtain ⟨Z, hZ⟩ : ∃ Z, R + M = Z := ⟨_, rfl⟩
        rw [hS, hZ] at S0
        have S1 : SI c n m' (S + Z / n) (Z % n) := by rw [HP.out]; exact S0
        have SB := si_bound HN.out S1 HLE.out HB.out
        have v1 : IntKind.i64.wrap ((Q : Int) + (D : Int)) = (S : Int) := by rw [wi64 Q D (by omega), hS]
        have v2 : IntKind.i64.wrap ((R : Int) + (M : Int)) = (Z : Int) := by rw [wi64 R M (by omega), hZ]
        have v3 : (Z : Int) ≤ 140737488355328 := by omega
        have v4 : (S : Int) ≤ 140737488355328 := by omega
        obtain ⟨U, hU⟩ : ∃ U, Z / n = U := ⟨_, rfl⟩
        obtain ⟨V, hV⟩ : ∃ V, Z % n = V := ⟨_, rfl⟩
        have u1 : (Z : Int) / (n : Int) = (U : Int) := by rw [← hU]; exact (Int.natCast_ediv _ _).symm
        have u2 : (Z : Int) % (n : Int) = (V : Int) := by rw [← hV]; exact (Int.natCast_emod _ _).symm
        rw [hU, hV] at S1 SB
        have u5 := wi64 S U (by omega)
        have HU3 : Hid (wrap64 (U : Int) = (U : Int)) := Lib.hid (w64n _ (by omega))
        have HU4 : Hid (wrap64 (V : Int) = (V : Int)) := Lib.hid (w64n _ (by omega))
        have S1 := Lib.hid S1
        have SB := Lib.hid SB
        clear t0 S0 hU hV hQ hR eM HPO HP hH hcn hmn hS hZ
        have e3 := HE3.out
        have e4 := HE4.out
        clear HE3 HE4
        go_wp2_with fail
        go_quiet (fail)
        have HW1 : Hid (∃ z, wr.drewN nq = w.drewN z) := Lib.hid (by obtain ⟨k, hk⟩ := HW.out; exact ⟨k + nq, by rw [hk, World.drewN_drewN]⟩)
        generalize wr.drewN nq = wq at *
        clear e3 e4 v1 v2 HW
        have u3 := HU3.out
        have u4 := HU4.out
        go_wp2_with fail
        go_quiet (fail)
        clear u3 u4 u5
        go_wp2
        go_roundw
        case rel => exact ⟨j, S + U, V, by omega, SB.out.1, SB.out.2, by go_num, by first | rfl | rw [u2], by rw [HF.out], Lib.hid (HM'.out _ _ S1.out), Lib.hid (by obtain ⟨k, hk⟩ := HW1.out; exact ⟨k + nq, by rw [hk, World.drewN_drewN]⟩)⟩
        case measure => simp [intOf]; omega
end Go.Proofs.Ytkojdifgmppfpaa
