/- The contracts of num.Ceil, num.Gcd and num.Sqrt. -/
import Derived.Test.YtffmlpenohpjlaaNumE
import Derived.Test.YtffmlpenohpjlaaNumPlainF
namespace Go.Proofs.Ytffmlpenohpjlaa
open Go.RowKit
open Num
set_option linter.unusedVariables false

set_option maxHeartbeats 400000 in
theorem ceil_ok (a b : Int) (w : World) (h1 : I64 a) (hb : b ≠ 0) (ho : ¬ (a = -9223372036854775808 ∧ b = -1)) :
    Calls Try.prog 12 #[.int .i64 a, .int .i64 b] w fun e w' => e = .returned (.tuple #[.int .i64 (cl a b), .int .i64 0]) ∧ w = w' := by
  have hr := tdiv_range a b h1 hb ho
  have hf := cl_range a b h1 hb ho
  have hfl := Lib.hid (cl_of_t a b hb)
  have hz := Lib.hid (chk_zero hb ho)
  unfold I64 at hr hf
  obtain ⟨hr1, hr2⟩ := hr
  obtain ⟨hf1, hf2⟩ := hf
  clear ho h1
  go_enter Try.func12, Try.ntmps12
  go_wp2_with fail
  refine (check_any _ _ _).mono ?_
  rintro e w' ⟨rfl, rfl⟩
  rw [hz.out]
  go_wp2
  all_goals
    go_ret2
    refine ⟨ret_two ?_ rfl, rfl⟩
    have hk := hfl.out
    clear hfl hz
    try unfold wrap64
    by_cases hA : a.tmod b < 0 <;> by_cases hB : b < 0 <;> simp [hA, hB] at * <;> first | omega | (split at hk <;> omega) | simp_all
set_option maxHeartbeats 400000 in
theorem ceil_err (a b : Int) (w : World) (hc : chk a b ≠ 0) :
    Calls Try.prog 12 #[.int .i64 a, .int .i64 b] w fun e w' => e = .returned (.tuple #[.int .i64 0, .int .i64 (chk a b)]) ∧ w = w' := by
  go_enter Try.func12, Try.ntmps12
  go_wp2_with fail
  refine (check_any _ _ _).mono ?_
  rintro e w' ⟨rfl, rfl⟩
  have hc' : (chk a b != 0) = true := by simpa using hc
  go_wp2
  go_ret2
  exact ⟨rfl, rfl⟩
theorem ceil_any (a b : Int) (w : World) (h1 : I64 a) :
    Calls Try.prog 12 #[.int .i64 a, .int .i64 b] w fun e w' => e = .returned (.tuple #[.int .i64 (clq a b), .int .i64 (chk a b)]) ∧ w = w' := by
  unfold clq
  rcases chk_cases a b with ⟨hb, hc⟩ | ⟨ha, hb, hc⟩ | ⟨hb, ho, hc⟩
  · rw [if_neg (by rw [hc]; decide)]; exact ceil_err a b w (by rw [hc]; decide)
  · rw [if_neg (by rw [hc]; decide)]; exact ceil_err a b w (by rw [hc]; decide)
  · rw [if_pos hc, hc]; exact ceil_ok a b w h1 hb ho

set_option maxHeartbeats 400000 in
theorem gcd_any (a b : Int) (w : World) (h1 : I64 a) (h2 : I64 b) :
    Calls Try.prog 18 #[.int .i64 a, .int .i64 b] w fun e w' => e = .returned (.int .i64 (gcV a b)) ∧ ∃ n, w' = w.drewN n := by
  unfold I64 at h1 h2
  obtain ⟨h11, h12⟩ := h1
  obtain ⟨h21, h22⟩ := h2
  have hg : Nat.gcd a.natAbs b.natAbs < 18446744073709551616 := by
    rcases Nat.eq_zero_or_pos a.natAbs with h0 | h0
    · rw [h0, Nat.gcd_zero_left]; omega
    · have := Nat.gcd_le_left b.natAbs h0; omega
  have HV : Hid (sVal false (Nat.gcd a.natAbs b.natAbs) = gcV a b) := by
    apply Lib.hid; unfold sVal sOk gcV; simp
  go_enter Try.func18, Try.ntmps18
  go_wp2_with fail
  refine (size_any a _ h11 h12).mono ?_
  rintro e w' ⟨rfl, rfl⟩
  go_wp2_with fail
  refine (size_any b _ h21 h22).mono ?_
  rintro e w' ⟨rfl, rfl⟩
  go_wp2_with fail
  refine (divisor_any a.natAbs b.natAbs _ (by omega) (by omega)).mono ?_
  rintro e w' ⟨rfl, n, rfl⟩
  generalize Nat.gcd a.natAbs b.natAbs = g at *
  go_wp2_with fail
  refine (signed_any g false _ hg).mono ?_
  rintro e w' ⟨rfl, rfl⟩
  rw [HV.out]
  go_wp2
  go_ret
  exact ⟨rfl, n, rfl⟩

theorem bits_or_i64_nat (a b : Nat) (ha : a < 4611686018427387904) (hb : b < 4611686018427387904) : bits .or .i64 (a : Int) (b : Int) = ((a ||| b : Nat) : Int) := by
  have hx : a ||| b < 2 ^ 62 := Nat.or_lt_two_pow (by omega) (by omega)
  have h1 : (BitVec.ofInt 64 (a : Int)).toNat = a := by
    rw [BitVec.ofInt_natCast, BitVec.toNat_ofNat]; exact Nat.mod_eq_of_lt (by omega)
  have h2 : (BitVec.ofInt 64 (b : Int)).toNat = b := by
    rw [BitVec.ofInt_natCast, BitVec.toNat_ofNat]; exact Nat.mod_eq_of_lt (by omega)
  show IntKind.i64.wrap ((BitVec.ofInt 64 (a : Int) ||| BitVec.ofInt 64 (b : Int)).toNat : Int) = _
  rw [BitVec.toNat_or, h1, h2]
  exact IntWalk.i64_in _ (by omega)
theorem or_pow (q j : Nat) : 2 ^ (j + 1) * q ||| 2 ^ j = 2 ^ (j + 1) * q + 2 ^ j :=
  (Nat.two_pow_add_eq_or_of_lt (Nat.pow_lt_pow_right (by omega) (by omega)) q).symm
theorem start_sq (N : Nat) (h : N ≤ 9223372036854775807) : N < (0 + 2 ^ (32 - 0)) * (0 + 2 ^ (32 - 0)) := by
  have e : (0 + 2 ^ (32 - 0)) * (0 + 2 ^ (32 - 0)) = 18446744073709551616 := by decide
  rw [e]; omega
/-- what Sqrt returns -/
def SqrtOut (N : Nat) (w : World) (e : Ending) (w' : World) : Prop := ∃ r : Nat, e = .returned (.int .i64 r) ∧ r * r ≤ N ∧ N < (r + 1) * (r + 1) ∧ r ≤ 4294967296 ∧ w = w'

set_option maxHeartbeats 1000000 in
theorem sqrt_ok (N : Nat) (w : World) (h1 : N ≤ 9223372036854775807) :
    Calls Try.prog 22 #[.int .i64 N] w (SqrtOut N w) := by
  go_enter Try.func22, Try.ntmps22
  go_wp2_with fail
  go_loop [2, 7] (fun r i => ∃ k s : Nat, k ≤ 32 ∧ s ≤ 4294967296 ∧ i = .int .i64 k ∧ r = .int .i64 s ∧ Hid (∃ q, s = 2 ^ (32 - k) * q) ∧ Hid (s + 2 ^ (32 - k) ≤ 4294967296) ∧ Hid (s * s ≤ N) ∧ Hid (N < (s + 2 ^ (32 - k)) * (s + 2 ^ (32 - k)))) (fun _ i => 32 - (intOf i).toNat)
  case atStart => exact ⟨0, 0, by omega, by omega, rfl, rfl, Lib.hid ⟨0, rfl⟩, Lib.hid (by decide), Lib.hid (by omega), Lib.hid (start_sq N h1)⟩
  case round =>
    obtain ⟨k, s, hk, hs, rfl, rfl, HQ, HB, HL, HU⟩ := hrel
    by_cases hlt : k < 32
    · obtain ⟨j, hj⟩ : ∃ j, 31 - k = j := ⟨_, rfl⟩
      have hj1 : 32 - k = j + 1 := by omega
      have hjl : j ≤ 31 := by omega
      have hp31 : 2 ^ j ≤ 2 ^ 31 := Nat.pow_le_pow_right (by omega) hjl
      have hp0 : 0 < 2 ^ j := Nat.pow_pos (by omega)
      have hps : 2 ^ (j + 1) = 2 * 2 ^ j := by rw [Nat.pow_succ]; omega
      have hb := HB.out
      have hu := HU.out
      obtain ⟨q, hq⟩ := HQ.out
      rw [hj1] at hb hu hq
      have hor : bits .or .i64 ((s : Nat) : Int) (wrap64 (2 ^ (31 - k))) = ((s + 2 ^ j : Nat) : Int) := by
        rw [hj]
        have e1 : wrap64 ((2 : Int) ^ j) = ((2 ^ j : Nat) : Int) := by
          have e0 : ((2 : Int) ^ j) = ((2 ^ j : Nat) : Int) := by push_cast; rfl
          rw [e0]
          unfold wrap64
          generalize 2 ^ j = p at *
          omega
        rw [e1, bits_or_i64_nat _ _ (by omega) (by omega), hq, or_pow]
      obtain ⟨t, ht⟩ : ∃ t, s + 2 ^ j = t := ⟨_, rfl⟩
      rw [ht] at hor
      have HT := Lib.hid ht
      have HQ2 := Lib.hid hq
      have HPS := Lib.hid hps
      have HB2 := Lib.hid hb
      have HU2 := Lib.hid hu
      have HJ := Lib.hid hj1
      have ht0 : (1 : Int) ≤ (t : Int) := by omega
      have ht1 : (t : Int) ≤ 8589934592 := by omega
      have ht2 : (t : Int) ≠ 0 := by omega
      clear hj hj1 hp31 hp0 hps hb hu hq ht HQ HB HU
      have hwq : wrap64 ((N : Int) / (t : Int)) = (N : Int) / (t : Int) := by
        have e : (N : Int) / (t : Int) = ((N / t : Nat) : Int) := by push_cast; rfl
        have hl : N / t ≤ N := Nat.div_le_self _ _
        rw [e]; unfold wrap64; generalize N / t = z at *; omega
      by_cases htt : t * t ≤ N
      · have h2 : t ≤ N / t := (Nat.le_div_iff_mul_le (by omega)).2 htt
        have h3 : (t : Int) ≤ (N : Int) / (t : Int) := by exact_mod_cast h2
        have HTT := Lib.hid htt
        clear htt
        go_wp2
        go_round
        case rel =>
          refine ⟨k + 1, t, by omega, by have := HT.out; have := HB2.out; have := HPS.out; omega, by go_num, rfl, Lib.hid ⟨2 * q + 1, ?_⟩, Lib.hid ?_, HTT, Lib.hid ?_⟩
          · rw [show 32 - (k + 1) = j by have := HJ.out; omega, ← HT.out, HQ2.out, HPS.out, Nat.mul_add, Nat.mul_one, Nat.mul_assoc, Nat.mul_left_comm]
          · rw [show 32 - (k + 1) = j by have := HJ.out; omega]; have := HT.out; have := HB2.out; have := HPS.out; omega
          · rw [show 32 - (k + 1) = j by have := HJ.out; omega, ← HT.out, Nat.add_assoc, ← Nat.two_mul, ← HPS.out]; exact HU2.out
        case measure => simp [intOf] <;> omega
      · have h2 : ¬ t ≤ N / t := fun hx => htt ((Nat.le_div_iff_mul_le (by omega)).1 hx)
        have h3 : decide ((t : Int) ≤ (N : Int) / (t : Int)) = false := decide_eq_false fun hx => h2 (by exact_mod_cast hx)
        have h4 : (N : Int) / (t : Int) < (t : Int) := by have := of_decide_eq_false h3; omega
        have HTT := Lib.hid htt
        clear htt h2
        go_wp2
        go_round
        case rel =>
          refine ⟨k + 1, s, by omega, hs, by go_num, rfl, Lib.hid ⟨2 * q, ?_⟩, Lib.hid ?_, HL, Lib.hid ?_⟩
          · rw [show 32 - (k + 1) = j by have := HJ.out; omega, HQ2.out, HPS.out, Nat.mul_assoc, Nat.mul_left_comm]
          · rw [show 32 - (k + 1) = j by have := HJ.out; omega]; have := HB2.out; have := HPS.out; omega
          · rw [show 32 - (k + 1) = j by have := HJ.out; omega, HT.out]; have := HTT.out; omega
        case measure => simp [intOf] <;> omega
    · have HK := Lib.hid (show 32 - k = 0 by omega)
      go_wp2
      go_ret
      refine ⟨s, rfl, HL.out, ?_, hs, rfl⟩
      have := HU.out; rw [HK.out] at this; exact this
end Go.Proofs.Ytffmlpenohpjlaa
