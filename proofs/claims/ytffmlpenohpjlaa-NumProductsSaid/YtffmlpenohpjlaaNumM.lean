/- The contracts of the reference's product and MulDiv (mapsheetsref01). -/
import Derived.Test.YtffmlpenohpjlaaNumI
import Derived.Test.YtffmlpenohpjlaaNumPlainI
import Derived.Test.YtffmlpenohpjlaaNumPlainL
namespace Go.Proofs.Ytffmlpenohpjlaa
open Go.RowKit
open Num
set_option linter.unusedVariables false

/-- what the reference's product returns -/
def ProdOut (a b c : Nat) (w : World) (e : Ending) (w' : World) : Prop :=
  ((e = .returned (.tuple #[.int .u64 0, .int .u64 0, .bool false]) ∧ 9223372036854775808 < a * b / c) ∨
   (e = .returned (.tuple #[.int .u64 ((a * b / c : Nat) : Int), .int .u64 ((a * b % c : Nat) : Int), .bool true]) ∧ a * b / c ≤ 9223372036854775809)) ∧ ∃ n, w' = w.drewN n
theorem bit_and (a k : Nat) (h : a < 18446744073709551616) : bits .and .u64 ((a : Int) / 2 ^ k) 1 = ((a / 2 ^ k % 2 : Nat) : Int) := by
  have e1 : ((2 : Int) ^ k) = ((2 ^ k : Nat) : Int) := by push_cast; rfl
  have hl : a / 2 ^ k < 18446744073709551616 := by have := Nat.div_le_self a (2 ^ k); omega
  rw [e1, ← Int.natCast_ediv]
  have h2 := bits_and_u64_nat (a / 2 ^ k) 1 hl (by omega)
  have e : a / 2 ^ k &&& 1 = a / 2 ^ k % 2 := Nat.and_two_pow_sub_one_eq_mod (a / 2 ^ k) 1
  rw [e] at h2
  exact h2
set_option maxRecDepth 100000 in
set_option maxHeartbeats 2000000 in
theorem product_any (a b c : Nat) (w : World) (ha : a < 18446744073709551616) (hb : b < 18446744073709551616) (hc : 0 < c) (hc' : c ≤ 9223372036854775808) :
    Calls Try.prog 38 #[.int .u64 a, .int .u64 b, .int .u64 c] w (ProdOut a b c w) := by
  have HA := Lib.hid ha
  have HC := Lib.hid hc
  have HC2 := Lib.hid hc'
  have hbc : b / c < 18446744073709551616 := by have := Nat.div_le_self b c; omega
  have hmc : b % c < c := Nat.mod_lt _ hc
  obtain ⟨D, hD⟩ : ∃ D, b / c = D := ⟨_, rfl⟩
  obtain ⟨M, hM⟩ : ∃ M, b % c = M := ⟨_, rfl⟩
  have E1 : (b : Int) / (c : Int) = (D : Int) := by rw [← hD]; exact (Int.natCast_ediv _ _).symm
  have E2 : (b : Int) % (c : Int) = (M : Int) := by rw [← hM]; exact (Int.natCast_emod _ _).symm
  rw [hD] at hbc
  rw [hM] at hmc
  have HD := Lib.hid hD
  have HM := Lib.hid hM
  clear hD hM
  have c1 : (1 : Int) ≤ (c : Int) := by omega
  have c2 : (c : Int) ≤ 9223372036854775808 := by omega
  have c0 : ((c : Int) = 0) = False := by simp; omega
  have P0 := Lib.hid (p_start (b := b) (show a < 2 ^ 64 by omega) hc)
  go_enter Try.func38, Try.ntmps38
  go_wp2_with fail
  go_loopw [9, 10, 11] (fun x y i wr => ∃ m q r : Nat, m ≤ 64 ∧ q ≤ 9223372036854775809 ∧ r < 9223372036854775808 ∧ x = .int .u64 q ∧ y = .int .u64 r ∧ i = .int .i64 ((m : Int) - 1) ∧ Hid (PInv a b c m q r) ∧ Hid (∃ n, wr = w.drewN n)) (fun _ _ i _ => (intOf i + 1).toNat)
  case atStart => exact ⟨64, 0, 0, by omega, by omega, by omega, rfl, rfl, rfl, P0, Lib.hid ⟨0, rfl⟩⟩
  case round =>
    obtain ⟨m, q, r, hm, hq, hr, rfl, rfl, rfl, HI, HW⟩ := hrel
    rcases Nat.eq_zero_or_pos m with h0 | h0
    · subst h0
      have PE := Lib.hid (p_end HI.out)
      have HQ := Lib.hid hq
      clear hq hr
      go_wp2
      go_ret3
      refine ⟨.inr ⟨ret_three ?_ ?_ rfl, by rw [← PE.out.1]; exact HQ.out⟩, HW.out⟩
      · exact congrArg _ PE.out.1
      · exact congrArg _ PE.out.2
    · obtain ⟨k, rfl⟩ : ∃ k, m = k + 1 := ⟨m - 1, by omega⟩
      have hk : k ≤ 63 := by omega
      by_cases f1 : 4611686018427387904 < q
      · have PF := Lib.hid (p_fail1 HI.out f1)
        have f1i : decide ((4611686018427387904 : Int) < (q : Int)) = true := by simp; omega
        clear hq hr
        go_wp2
        go_ret3
        exact ⟨.inl ⟨rfl, PF.out⟩, HW.out⟩
      · have f1i : decide ((4611686018427387904 : Int) < (q : Int)) = false := by simp; omega
        obtain ⟨Q, hQ⟩ : ∃ Q, 2 * q = Q := ⟨_, rfl⟩
        obtain ⟨R, hR⟩ : ∃ R, 2 * r = R := ⟨_, rfl⟩
        have d1 : IntKind.u64.wrap (2 * (q : Int)) = (Q : Int) := by rw [show 2 * (q : Int) = (Q : Int) by omega]; exact m64wrap _ (by omega)
        have d2 : IntKind.u64.wrap (2 * (r : Int)) = (R : Int) := by rw [show 2 * (r : Int) = (R : Int) by omega]; exact m64wrap _ (by omega)
        by_cases f2 : c ≤ R
        · have PH := Lib.hid (p_up HI.out (by rw [hR]; exact f2))
          rw [hQ, hR] at PH
          obtain ⟨q1, hq1⟩ : ∃ q1, Q + 1 = q1 := ⟨_, rfl⟩
          obtain ⟨r1, hr1⟩ : ∃ r1, R - c = r1 := ⟨_, rfl⟩
          rw [hq1, hr1] at PH
          have d3 : IntKind.u64.wrap ((Q : Int) + 1) = (q1 : Int) := by rw [show (Q : Int) + 1 = (q1 : Int) by omega]; exact m64wrap _ (by omega)
          have d4 : IntKind.u64.wrap ((R : Int) - (c : Int)) = (r1 : Int) := by rw [show (R : Int) - (c : Int) = (r1 : Int) by omega]; exact m64wrap _ (by omega)
          have f2i : decide ((c : Int) ≤ (R : Int)) = true := by simp; omega
          have f2k : (c : Int) ≤ (R : Int) := by omega
          have Q1 := Lib.hid (show q1 ≤ 9223372036854775809 by omega)
          have R1 := Lib.hid (show r1 < 9223372036854775808 by have := PH.out.2; omega)
          have r1c : r1 < c := PH.out.2
          clear hq1 hr1 hQ hR f1 f2 hq hr HI
          have e5 := bit_and a k HA.out
          rcases Nat.mod_two_eq_zero_or_one (a / 2 ^ k) with hbit | hbit
          · rw [hbit] at e5
            have PZ := Lib.hid (p_zero PH.out hbit)
            clear hbit
            go_wp2
            go_roundw
            case rel => exact ⟨k, q1, r1, by omega, Q1.out, R1.out, rfl, rfl, by go_num, PZ, HW⟩
            case measure => simp [intOf] <;> omega
          · rw [hbit] at e5
            by_cases f3 : 9223372036854775808 < q1
            · have f3i : decide ((9223372036854775808 : Int) < (q1 : Int)) = true := by simp; omega
              have PF := Lib.hid (p_fail2 PH.out hbit (.inl f3))
              clear f3 hbit
              go_wp2
              go_ret3
              exact ⟨.inl ⟨rfl, PF.out⟩, HW.out⟩
            · have f3i : decide ((9223372036854775808 : Int) < (q1 : Int)) = false := by simp; omega
              have q1l : (q1 : Int) ≤ 9223372036854775808 := by omega
              by_cases f4 : 9223372036854775808 < q1 + D
              · have f4i : decide ((9223372036854775808 : Int) - (q1 : Int) < (D : Int)) = true := by simp; omega
                have PF := Lib.hid (p_fail2 PH.out hbit (.inr (by rw [HD.out]; exact f4)))
                have f4k : (9223372036854775808 : Int) - (q1 : Int) < (D : Int) := by omega
                clear f4 f3 hbit
                go_wp2
                go_ret3
                exact ⟨.inl ⟨rfl, PF.out⟩, HW.out⟩
              · have f4i : decide ((9223372036854775808 : Int) - (q1 : Int) < (D : Int)) = false := by simp; omega
                have f4k : (D : Int) ≤ (9223372036854775808 : Int) - (q1 : Int) := by omega
                obtain ⟨q2, hq2⟩ : ∃ q2, q1 + D = q2 := ⟨_, rfl⟩
                obtain ⟨r2, hr2⟩ : ∃ r2, r1 + M = r2 := ⟨_, rfl⟩
                have g1 : IntKind.u64.wrap ((q1 : Int) + (D : Int)) = (q2 : Int) := by rw [show (q1 : Int) + (D : Int) = (q2 : Int) by omega]; exact m64wrap _ (by omega)
                have g2 : IntKind.u64.wrap ((r1 : Int) + (M : Int)) = (r2 : Int) := by rw [show (r1 : Int) + (M : Int) = (r2 : Int) by omega]; exact m64wrap _ (by have := HC2.out; omega)
                by_cases f5 : c ≤ r2
                · have PI := Lib.hid (p_one_up PH.out hbit HC.out (by rw [HM.out, hr2]; exact f5))
                  rw [HD.out, HM.out, hq2, hr2] at PI
                  obtain ⟨q3, hq3⟩ : ∃ q3, q2 + 1 = q3 := ⟨_, rfl⟩
                  obtain ⟨r3, hr3⟩ : ∃ r3, r2 - c = r3 := ⟨_, rfl⟩
                  have g3 : IntKind.u64.wrap ((q2 : Int) + 1) = (q3 : Int) := by rw [show (q2 : Int) + 1 = (q3 : Int) by omega]; exact m64wrap _ (by omega)
                  have g4 : IntKind.u64.wrap ((r2 : Int) - (c : Int)) = (r3 : Int) := by rw [show (r2 : Int) - (c : Int) = (r3 : Int) by omega]; exact m64wrap _ (by have := HC2.out; omega)
                  rw [hq3, hr3] at PI
                  have Q3 := Lib.hid (show q3 ≤ 9223372036854775809 by omega)
                  have R3 := Lib.hid (show r3 < 9223372036854775808 by have := HC2.out; have := PI.out.2; omega)
                  have f5i : decide ((c : Int) ≤ (r2 : Int)) = true := by simp; omega
                  have f5k : (c : Int) ≤ (r2 : Int) := by omega
                  clear hq2 hr2 hq3 hr3 f4 f3 hbit f5
                  go_wp2_with fail
                  go_quiet (fail)
                  go_wp2
                  go_roundw
                  case rel => exact ⟨k, q3, r3, by omega, Q3.out, R3.out, rfl, rfl, by go_num, PI, Lib.hid (by obtain ⟨n, hn⟩ := HW.out; exact ⟨n + nq, by rw [hn, World.drewN_drewN]⟩)⟩
                  case measure => simp [intOf] <;> omega
                · have PI := Lib.hid (p_one_down PH.out hbit HC.out (by rw [HM.out, hr2]; omega))
                  rw [HD.out, HM.out, hq2, hr2] at PI
                  have Q3 := Lib.hid (show q2 ≤ 9223372036854775809 by omega)
                  have R3 := Lib.hid (show r2 < 9223372036854775808 by have := HC2.out; have := PI.out.2; omega)
                  have f5i : decide ((c : Int) ≤ (r2 : Int)) = false := by simp; omega
                  have f5k : (r2 : Int) < (c : Int) := by omega
                  clear hq2 hr2 f4 f3 hbit f5
                  go_wp2_with fail
                  go_quiet (fail)
                  go_wp2
                  go_roundw
                  case rel => exact ⟨k, q2, r2, by omega, Q3.out, R3.out, rfl, rfl, by go_num, PI, Lib.hid (by obtain ⟨n, hn⟩ := HW.out; exact ⟨n + nq, by rw [hn, World.drewN_drewN]⟩)⟩
                  case measure => simp [intOf] <;> omega
        · have PH := Lib.hid (p_down HI.out (by rw [hR]; omega))
          rw [hQ, hR] at PH
          obtain ⟨q1, hq1⟩ : ∃ q1, Q = q1 := ⟨_, rfl⟩
          obtain ⟨r1, hr1⟩ : ∃ r1, R = r1 := ⟨_, rfl⟩
          subst hq1
          subst hr1
          obtain ⟨q1, rfl⟩ : ∃ q1, q1 = Q := ⟨_, rfl⟩
          obtain ⟨r1, rfl⟩ : ∃ r1, r1 = R := ⟨_, rfl⟩
          have f2i : decide ((c : Int) ≤ (r1 : Int)) = false := by simp; omega
          have f2k : (r1 : Int) < (c : Int) := by omega
          have Q1 := Lib.hid (show q1 ≤ 9223372036854775809 by omega)
          have R1 := Lib.hid (show r1 < 9223372036854775808 by omega)
          have r1c : r1 < c := PH.out.2
          clear hQ hR f1 f2 hq hr HI
          have e5 := bit_and a k HA.out
          rcases Nat.mod_two_eq_zero_or_one (a / 2 ^ k) with hbit | hbit
          · rw [hbit] at e5
            have PZ := Lib.hid (p_zero PH.out hbit)
            clear hbit
            go_wp2
            go_roundw
            case rel => exact ⟨k, q1, r1, by omega, Q1.out, R1.out, rfl, rfl, by go_num, PZ, HW⟩
            case measure => simp [intOf] <;> omega
          · rw [hbit] at e5
            by_cases f3 : 9223372036854775808 < q1
            · have f3i : decide ((9223372036854775808 : Int) < (q1 : Int)) = true := by simp; omega
              have PF := Lib.hid (p_fail2 PH.out hbit (.inl f3))
              clear f3 hbit
              go_wp2
              go_ret3
              exact ⟨.inl ⟨rfl, PF.out⟩, HW.out⟩
            · have f3i : decide ((9223372036854775808 : Int) < (q1 : Int)) = false := by simp; omega
              have q1l : (q1 : Int) ≤ 9223372036854775808 := by omega
              by_cases f4 : 9223372036854775808 < q1 + D
              · have f4i : decide ((9223372036854775808 : Int) - (q1 : Int) < (D : Int)) = true := by simp; omega
                have PF := Lib.hid (p_fail2 PH.out hbit (.inr (by rw [HD.out]; exact f4)))
                have f4k : (9223372036854775808 : Int) - (q1 : Int) < (D : Int) := by omega
                clear f4 f3 hbit
                go_wp2
                go_ret3
                exact ⟨.inl ⟨rfl, PF.out⟩, HW.out⟩
              · have f4i : decide ((9223372036854775808 : Int) - (q1 : Int) < (D : Int)) = false := by simp; omega
                have f4k : (D : Int) ≤ (9223372036854775808 : Int) - (q1 : Int) := by omega
                obtain ⟨q2, hq2⟩ : ∃ q2, q1 + D = q2 := ⟨_, rfl⟩
                obtain ⟨r2, hr2⟩ : ∃ r2, r1 + M = r2 := ⟨_, rfl⟩
                have g1 : IntKind.u64.wrap ((q1 : Int) + (D : Int)) = (q2 : Int) := by rw [show (q1 : Int) + (D : Int) = (q2 : Int) by omega]; exact m64wrap _ (by omega)
                have g2 : IntKind.u64.wrap ((r1 : Int) + (M : Int)) = (r2 : Int) := by rw [show (r1 : Int) + (M : Int) = (r2 : Int) by omega]; exact m64wrap _ (by have := HC2.out; omega)
                by_cases f5 : c ≤ r2
                · have PI := Lib.hid (p_one_up PH.out hbit HC.out (by rw [HM.out, hr2]; exact f5))
                  rw [HD.out, HM.out, hq2, hr2] at PI
                  obtain ⟨q3, hq3⟩ : ∃ q3, q2 + 1 = q3 := ⟨_, rfl⟩
                  obtain ⟨r3, hr3⟩ : ∃ r3, r2 - c = r3 := ⟨_, rfl⟩
                  have g3 : IntKind.u64.wrap ((q2 : Int) + 1) = (q3 : Int) := by rw [show (q2 : Int) + 1 = (q3 : Int) by omega]; exact m64wrap _ (by omega)
                  have g4 : IntKind.u64.wrap ((r2 : Int) - (c : Int)) = (r3 : Int) := by rw [show (r2 : Int) - (c : Int) = (r3 : Int) by omega]; exact m64wrap _ (by have := HC2.out; omega)
                  rw [hq3, hr3] at PI
                  have Q3 := Lib.hid (show q3 ≤ 9223372036854775809 by omega)
                  have R3 := Lib.hid (show r3 < 9223372036854775808 by have := HC2.out; have := PI.out.2; omega)
                  have f5i : decide ((c : Int) ≤ (r2 : Int)) = true := by simp; omega
                  have f5k : (c : Int) ≤ (r2 : Int) := by omega
                  clear hq2 hr2 hq3 hr3 f4 f3 hbit f5
                  go_wp2_with fail
                  go_quiet (fail)
                  go_wp2
                  go_roundw
                  case rel => exact ⟨k, q3, r3, by omega, Q3.out, R3.out, rfl, rfl, by go_num, PI, Lib.hid (by obtain ⟨n, hn⟩ := HW.out; exact ⟨n + nq, by rw [hn, World.drewN_drewN]⟩)⟩
                  case measure => simp [intOf] <;> omega
                · have PI := Lib.hid (p_one_down PH.out hbit HC.out (by rw [HM.out, hr2]; omega))
                  rw [HD.out, HM.out, hq2, hr2] at PI
                  have Q3 := Lib.hid (show q2 ≤ 9223372036854775809 by omega)
                  have R3 := Lib.hid (show r2 < 9223372036854775808 by have := HC2.out; have := PI.out.2; omega)
                  have f5i : decide ((c : Int) ≤ (r2 : Int)) = false := by simp; omega
                  have f5k : (r2 : Int) < (c : Int) := by omega
                  clear hq2 hr2 f4 f3 hbit f5
                  go_wp2_with fail
                  go_quiet (fail)
                  go_wp2
                  go_roundw
                  case rel => exact ⟨k, q2, r2, by omega, Q3.out, R3.out, rfl, rfl, by go_num, PI, Lib.hid (by obtain ⟨n, hn⟩ := HW.out; exact ⟨n + nq, by rw [hn, World.drewN_drewN]⟩)⟩
                  case measure => simp [intOf] <;> omega
theorem md_sg {a b c : Int} (hc : c ≠ 0) (m : Bool) (n : Nat) (hn : mdN a b c = n) (h : m = ngm a b c ∨ n = 0) : sgV m n = mdV a b c ∧ sgE m n = mdE a b c := by
  subst hn
  obtain ⟨e1, e2⟩ := sg_eq m (ngm a b c) _ h
  have hE : mdE a b c = (if sOk (ngm a b c) (mdN a b c) = true then 0 else 15) := by unfold mdE; rw [if_neg hc]
  refine ⟨?_, by rw [e2, hE]⟩
  rw [e1]
  by_cases h : sOk (ngm a b c) (mdN a b c) = true
  · rw [md_val hc h]; unfold mdV; rw [hE, if_pos h, if_pos rfl]
  · unfold sVal mdV; rw [if_neg h, hE, if_neg h, if_neg (by decide)]
theorem md_over {a b c : Int} (hc : c ≠ 0) (h : 9223372036854775808 < a.natAbs * b.natAbs / c.natAbs) : mdV a b c = 0 ∧ mdE a b c = 15 := by
  have hn : 9223372036854775808 < mdN a b c := by unfold mdN; split <;> omega
  have e : mdE a b c = 15 := by
    unfold mdE; rw [if_neg hc, if_neg]
    unfold sOk; split <;> simp <;> omega
  exact ⟨by unfold mdV; rw [e]; rfl, e⟩
set_option maxHeartbeats 400000 in
theorem rmuldiv_zero (a b : Int) (w : World) : Calls Try.prog 21 #[.int .i64 a, .int .i64 b, .int .i64 0] w fun e w' => e = .returned (.tuple #[.int .i64 0, .int .i64 21]) ∧ ∃ n, w' = w.drewN n := by
  go_enter Try.func21, Try.ntmps21
  go_wp2
  go_ret2
  exact ⟨rfl, 0, rfl⟩
set_option maxRecDepth 100000 in
set_option maxHeartbeats 2000000 in
theorem rmuldiv_ok (a b c : Int) (w : World) (h1 : I64 a) (h2 : I64 b) (h3 : I64 c) (hc : c ≠ 0) :
    Calls Try.prog 21 #[.int .i64 a, .int .i64 b, .int .i64 c] w fun e w' => e = .returned (.tuple #[.int .i64 (mdV a b c), .int .i64 (mdE a b c)]) ∧ ∃ n, w' = w.drewN n := by
  unfold I64 at h1 h2 h3
  obtain ⟨h11, h12⟩ := h1
  obtain ⟨h21, h22⟩ := h2
  obtain ⟨h31, h32⟩ := h3
  have hce : (c == 0) = false := by simpa using hc
  have A1 := Lib.hid (show a.natAbs < 18446744073709551616 by omega)
  have B1 := Lib.hid (show b.natAbs < 18446744073709551616 by omega)
  have C1 := Lib.hid (show 0 < c.natAbs by omega)
  have C2 := Lib.hid (show c.natAbs ≤ 9223372036854775808 by omega)
  have MN := Lib.hid (show mdN a b c = if ngm a b c = true ∧ 0 < a.natAbs * b.natAbs % c.natAbs then a.natAbs * b.natAbs / c.natAbs + 1 else a.natAbs * b.natAbs / c.natAbs from rfl)
  have NG : Hid (ngm a b c = (!(((!((decide (a < 0)) == (decide (b < 0))))) == (decide (c < 0))))) := Lib.hid rfl
  have FF := Lib.hid (fun m n => md_sg (a := a) (b := b) hc m n)
  have OV := Lib.hid (fun h => md_over (a := a) (b := b) hc h)
  clear hc
  go_enter Try.func21, Try.ntmps21
  go_wp2_with fail
  refine (rsize_any a _ h11 h12).mono ?_
  rintro e w' ⟨rfl, rfl⟩
  go_wp2_with fail
  refine (rsize_any b _ h21 h22).mono ?_
  rintro e w' ⟨rfl, rfl⟩
  go_wp2_with fail
  refine (rsize_any c _ h31 h32).mono ?_
  rintro e w' ⟨rfl, rfl⟩
  go_wp2_with fail
  refine (product_any a.natAbs b.natAbs c.natAbs _ A1.out B1.out C1.out C2.out).mono ?_
  rintro e w' ⟨⟨rfl, hbig⟩ | ⟨rfl, hle⟩, n0, rfl⟩
  · have OO := Lib.hid (OV.out hbig)
    clear hbig
    go_wp2
    go_ret2
    exact ⟨ret_two OO.out.1.symm OO.out.2.symm, n0, rfl⟩
  · generalize a.natAbs * b.natAbs / c.natAbs = q at *
    generalize a.natAbs * b.natAbs % c.natAbs = r at *
    cases hn : ngm a b c
    · have OO := Lib.hid (FF.out false q (by rw [MN.out, hn]; exact if_neg (fun x => by cases x.1)) (.inl hn.symm))
      have NN := NG.out.symm.trans hn
      clear hn
      go_wp2_with fail
      refine (rsigned_any false q _ (by omega) (by omega)).mono ?_
      rintro e w' ⟨rfl, rfl⟩
      rw [OO.out.1, OO.out.2]
      go_wp2
      go_ret2
      exact ⟨rfl, n0, rfl⟩
    · have NN := NG.out.symm.trans hn
      by_cases hr : r = 0
      · by_cases hq : q = 0
        · subst hr
          subst hq
          have OO := Lib.hid (FF.out false 0 (by rw [MN.out]; exact if_neg (fun x => by have := x.2; omega)) (.inr rfl))
          clear hn
          go_wp2_with fail
          refine (rsigned_any false 0 _ (by omega) (by omega)).mono ?_
          rintro e w' ⟨rfl, rfl⟩
          have o1 := OO.out.1
          have o2 := OO.out.2
          simp only [Int.ofNat_zero] at o1 o2
          rw [o1, o2]
          go_wp2
          go_ret2
          exact ⟨rfl, n0, rfl⟩
        · subst hr
          have OO := Lib.hid (FF.out true q (by rw [MN.out]; exact if_neg (fun x => by have := x.2; omega)) (.inl hn.symm))
          have q1 : decide (0 < (q : Int)) = true := by simp; omega
          have q2 : 0 < q := by omega
          clear hn hq
          go_wp2_with fail
          refine (rsigned_any true q _ (by omega) (by omega)).mono ?_
          rintro e w' ⟨rfl, rfl⟩
          rw [OO.out.1, OO.out.2]
          go_wp2
          go_ret2
          exact ⟨rfl, n0, rfl⟩
      · have OO := Lib.hid (FF.out true (q + 1) (by rw [MN.out, hn]; exact if_pos ⟨rfl, by omega⟩) (.inl hn.symm))
        have r1 : decide (0 < (r : Int)) = true := by simp; omega
        have r2 : 0 < r := by omega
        obtain ⟨t, ht⟩ : ∃ t, q + 1 = t := ⟨_, rfl⟩
        have f1 : IntKind.u64.wrap ((q : Int) + 1) = (t : Int) := by
          rw [show (q : Int) + 1 = (t : Int) by omega]; exact m64wrap _ (by omega)
        have q1 : decide (0 < (t : Int)) = true := by simp; omega
        have q2 : 0 < t := by omega
        rw [ht] at OO
        have TL := Lib.hid (show (t : Int) ≤ 18446744073709551615 by omega)
        clear hn hr ht hle
        go_wp2_with fail
        refine (rsigned_any true t _ (by omega) TL.out).mono ?_
        rintro e w' ⟨rfl, rfl⟩
        rw [OO.out.1, OO.out.2]
        go_wp2
        go_ret2
        exact ⟨rfl, n0, rfl⟩
theorem rmuldiv_any (a b c : Int) (w : World) (h1 : I64 a) (h2 : I64 b) (h3 : I64 c) :
    Calls Try.prog 21 #[.int .i64 a, .int .i64 b, .int .i64 c] w fun e w' => e = .returned (.tuple #[.int .i64 (mdV a b c), .int .i64 (mdE a b c)]) ∧ ∃ n, w' = w.drewN n := by
  by_cases hc : c = 0
  · subst hc; rw [(md_zero a b).1, (md_zero a b).2]; exact rmuldiv_zero a b w
  · exact rmuldiv_ok a b c w h1 h2 h3 hc
end Go.Proofs.Ytffmlpenohpjlaa
