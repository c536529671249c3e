/- The contract of num.MulDiv for all ints. -/
import Derived.Test.YtjclioakdmilmaaNumJ
import Derived.Test.YtjclioakdmilmaaNumPlainI
namespace Go.Proofs.Ytjclioakdmilmaa
open Go.RowKit
open Num
set_option linter.unusedVariables false

theorem div64_any (hi lo y : Nat) (w : World) (h1 : hi < y) (h2 : y < 18446744073709551616) (h3 : lo < 18446744073709551616) :
    Calls Try.prog 47 #[.int .u64 hi, .int .u64 lo, .int .u64 y] w fun e w' => e = .returned (.tuple #[.int .u64 ((hi * 18446744073709551616 + lo) / y : Nat), .int .u64 ((hi * 18446744073709551616 + lo) % y : Nat)]) ∧ ∃ n, w' = w.drewN n := by
  rcases Nat.eq_zero_or_pos hi with h0 | h0
  · subst h0
    have e : 0 * 18446744073709551616 + lo = lo := by omega
    rw [e]
    exact div64_low lo y w (by omega) h2 h3
  · exact div64_high hi lo y w h0 h1 h2 h3
theorem hl_join (x y : Nat) : hi64 x y * 18446744073709551616 + lo64 x y = x * y := by
  unfold hi64 lo64; have := Nat.div_add_mod (x * y) 18446744073709551616; omega
theorem hi64_lt {x y : Nat} (hx : x ≤ 9223372036854775808) (hy : y ≤ 9223372036854775808) : hi64 x y < 18446744073709551616 ∧ lo64 x y < 18446744073709551616 := by
  refine ⟨?_, Nat.mod_lt _ (by omega)⟩
  unfold hi64
  have := Nat.mul_le_mul hx hy
  omega
set_option maxHeartbeats 400000 in
theorem muldiv_zero (a b : Int) (w : World) : Calls Try.prog 42 #[.int .i64 a, .int .i64 b, .int .i64 0] w fun e w' => e = .returned (.tuple #[.int .i64 0, .int .i64 21]) ∧ ∃ n, w' = w.drewN n := by
  go_enter Try.func42, Try.ntmps42
  go_wp2
  go_ret2
  exact ⟨rfl, 0, rfl⟩
theorem quo_lt {x y c : Nat} (h : x * y / 18446744073709551616 < c) : x * y / c < 18446744073709551616 := by
  rw [Nat.div_lt_iff_lt_mul (by omega)]
  have := Nat.div_add_mod (x * y) 18446744073709551616
  have h2 := Nat.mod_lt (x * y) (show 0 < 18446744073709551616 by omega)
  have h3 : 18446744073709551616 * (x * y / 18446744073709551616) + 18446744073709551616 ≤ 18446744073709551616 * c := by omega
  omega
set_option maxRecDepth 100000 in
set_option maxHeartbeats 2000000 in
theorem muldiv_ok (a b c : Int) (w : World) (h1 : I64 a) (h2 : I64 b) (h3 : I64 c) (hc : c ≠ 0) :
    Calls Try.prog 42 #[.int .i64 a, .int .i64 b, .int .i64 c] w fun e w' => e = .returned (.tuple #[.int .i64 (mdV a b c), .int .i64 (mdE a b c)]) ∧ ∃ n, w' = w.drewN n := by
  unfold I64 at h1 h2 h3
  obtain ⟨h11, h12⟩ := h1
  obtain ⟨h21, h22⟩ := h2
  obtain ⟨h31, h32⟩ := h3
  have hce : (c == 0) = false := by simpa using hc
  have A1 := Lib.hid (show a.natAbs ≤ 9223372036854775808 by omega)
  have B1 := Lib.hid (show b.natAbs ≤ 9223372036854775808 by omega)
  have C1 := Lib.hid (show c.natAbs < 18446744073709551616 by omega)
  have HLJ := Lib.hid (hl_join a.natAbs b.natAbs)
  have HLT := Lib.hid (hi64_lt A1.out B1.out)
  have BIG := Lib.hid (fun h => mdN_big (a := a) (b := b) hc h)
  have QL := Lib.hid (fun h => quo_lt (x := a.natAbs) (y := b.natAbs) (c := c.natAbs) h)
  have hb0 : hi64 a.natAbs b.natAbs = a.natAbs * b.natAbs / 18446744073709551616 := rfl
  have HB0 := Lib.hid hb0
  clear hb0
  have MN := Lib.hid (show mdN a b c = if ngm a b c = true ∧ 0 < a.natAbs * b.natAbs % c.natAbs then a.natAbs * b.natAbs / c.natAbs + 1 else a.natAbs * b.natAbs / c.natAbs from rfl)
  have NG : Hid (ngm a b c = (!(((!((decide (a < 0)) == (decide (b < 0))))) == (decide (c < 0))))) := Lib.hid rfl
  have OUT : Hid (∀ n : Nat, mdN a b c = n → sVal (ngm a b c) n = (if sOk (ngm a b c) n = true then mdV a b c else 0) ∧ mdE a b c = (if sOk (ngm a b c) n = true then 0 else 15) ∧ (sOk (ngm a b c) n = false → mdV a b c = 0)) := by
    apply Lib.hid
    intro n hn
    subst hn
    have hE : mdE a b c = (if sOk (ngm a b c) (mdN a b c) = true then 0 else 15) := by unfold mdE; rw [if_neg hc]
    refine ⟨?_, hE, fun h => ?_⟩
    · by_cases h : sOk (ngm a b c) (mdN a b c) = true
      · rw [if_pos h, md_val hc h]; unfold mdV; rw [hE, if_pos h, if_pos rfl]
      · rw [if_neg h]; unfold sVal; rw [if_neg h]
    · unfold mdV; rw [hE, h]; rfl
  have CZ := Lib.hid hc
  clear hc
  go_enter Try.func42, Try.ntmps42
  go_wp2_with fail
  refine (size_any a _ h11 h12).mono ?_
  rintro e w' ⟨rfl, rfl⟩
  go_wp2_with fail
  refine (size_any b _ h21 h22).mono ?_
  rintro e w' ⟨rfl, rfl⟩
  go_wp2_with fail
  refine (mul64_w a.natAbs b.natAbs (by have := A1.out; omega) (by have := B1.out; omega) _).mono ?_
  rintro e w' ⟨rfl, hw⟩
  subst hw
  go_wp2_with fail
  refine (size_any c _ h31 h32).mono ?_
  rintro e w' ⟨rfl, rfl⟩
  generalize hi64 a.natAbs b.natAbs = H at *
  generalize lo64 a.natAbs b.natAbs = L at *
  by_cases hb : c.natAbs ≤ H
  · have hbi : decide ((c.natAbs : Int) ≤ (H : Int)) = true := by simp; omega
    have BB := Lib.hid (BIG.out (by rw [← HB0.out]; exact hb))
    have hb1 : (c.natAbs : Int) ≤ (H : Int) := by omega
    go_wp2
    go_ret2
    exact ⟨ret_two BB.out.2.symm BB.out.1.symm, 0, rfl⟩
  · have hbi : decide ((c.natAbs : Int) ≤ (H : Int)) = false := by simp; omega
    have QB := Lib.hid (QL.out (by rw [← HB0.out]; omega))
    have HC := Lib.hid (show H < c.natAbs by omega)
    have hb1 : (H : Int) < (c.natAbs : Int) := by omega
    have hb2 : H < c.natAbs := by omega
    clear hb
    go_wp2_with fail
    refine (size_any c _ h31 h32).mono ?_
    rintro e w' ⟨rfl, rfl⟩
    go_wp2_with fail
    refine (div64_any H L c.natAbs _ HC.out C1.out HLT.out.2).mono ?_
    rintro e w' ⟨rfl, n0, rfl⟩
    rw [HLJ.out]
    generalize a.natAbs * b.natAbs / c.natAbs = q at *
    generalize a.natAbs * b.natAbs % c.natAbs = r at *
    rw [← NG.out]
    cases hn : ngm a b c
    · have OO := Lib.hid (OUT.out q (by rw [MN.out, hn]; exact if_neg (fun x => by cases x.1)))
      have BD := Lib.hid QB.out
      go_wp2_with fail
      cases hs : sOk (ngm a b c) q
      · have O1 := Lib.hid (OO.out.2.1.trans (by rw [hs]; try rfl))
        have O2 := Lib.hid (OO.out.2.2 hs)
        rw [hn] at hs
        refine (signed_any q false _ BD.out).mono ?_
        rintro e w' ⟨rfl, rfl⟩
        rw [hs]
        go_wp2
        go_ret2
        exact ⟨ret_two O2.out.symm O1.out.symm, n0, rfl⟩
      · have O1 := Lib.hid (OO.out.2.1.trans (by rw [hs]; try rfl))
        have O2 := Lib.hid (OO.out.1.trans (by rw [hs]; try rfl))
        rw [hn] at hs O2
        refine (signed_any q false _ BD.out).mono ?_
        rintro e w' ⟨rfl, rfl⟩
        rw [hs, O2.out]
        go_wp2
        go_ret2
        exact ⟨ret_two rfl O1.out.symm, n0, rfl⟩
    · by_cases hr : r = 0
      · have OO := Lib.hid (OUT.out q (by rw [MN.out]; exact if_neg (fun x => by have := x.2; omega)))
        have BD := Lib.hid QB.out
        subst hr
        go_wp2_with fail
        cases hs : sOk (ngm a b c) q
        · have O1 := Lib.hid (OO.out.2.1.trans (by rw [hs]; try rfl))
          have O2 := Lib.hid (OO.out.2.2 hs)
          rw [hn] at hs
          refine (signed_any q true _ BD.out).mono ?_
          rintro e w' ⟨rfl, rfl⟩
          rw [hs]
          go_wp2
          go_ret2
          exact ⟨ret_two O2.out.symm O1.out.symm, n0, rfl⟩
        · have O1 := Lib.hid (OO.out.2.1.trans (by rw [hs]; try rfl))
          have O2 := Lib.hid (OO.out.1.trans (by rw [hs]; try rfl))
          rw [hn] at hs O2
          refine (signed_any q true _ BD.out).mono ?_
          rintro e w' ⟨rfl, rfl⟩
          rw [hs, O2.out]
          go_wp2
          go_ret2
          exact ⟨ret_two rfl O1.out.symm, n0, rfl⟩
      · have OO := Lib.hid (OUT.out (q + 1) (by rw [MN.out, hn]; exact if_pos ⟨rfl, by omega⟩))
        have hr1 : ((r : Int) != 0) = true := by simp; omega
        by_cases hq : q = 18446744073709551615
        · have hs : sOk (ngm a b c) (q + 1) = false := by rw [hn, hq]; decide
          have O1 := Lib.hid (OO.out.2.1.trans (by rw [hs]; try rfl))
          have O2 := Lib.hid (OO.out.2.2 hs)
          have hq1 : ((q : Int) == 18446744073709551615) = true := by simp; omega
          clear hq hs hr
          go_wp2
          go_ret2
          exact ⟨ret_two O2.out.symm O1.out.symm, n0, rfl⟩
        · have hq1 : ((q : Int) == 18446744073709551615) = false := by simp; omega
          obtain ⟨t, ht⟩ : ∃ t, q + 1 = t := ⟨_, rfl⟩
          have BD := Lib.hid (show t < 18446744073709551616 by have := QB.out; omega)
          have f1 : IntKind.u64.wrap ((q : Int) + 1) = (t : Int) := by
            rw [show (q : Int) + 1 = (t : Int) by omega]; exact m64wrap _ BD.out
          rw [ht] at OO
          clear hq hr ht
          go_wp2_with fail
          cases hs : sOk (ngm a b c) t
          · have O1 := Lib.hid (OO.out.2.1.trans (by rw [hs]; try rfl))
            have O2 := Lib.hid (OO.out.2.2 hs)
            rw [hn] at hs
            refine (signed_any t true _ BD.out).mono ?_
            rintro e w' ⟨rfl, rfl⟩
            rw [hs]
            go_wp2
            go_ret2
            exact ⟨ret_two O2.out.symm O1.out.symm, n0, rfl⟩
          · have O1 := Lib.hid (OO.out.2.1.trans (by rw [hs]; try rfl))
            have O2 := Lib.hid (OO.out.1.trans (by rw [hs]; try rfl))
            rw [hn] at hs O2
            refine (signed_any t true _ BD.out).mono ?_
            rintro e w' ⟨rfl, rfl⟩
            rw [hs, O2.out]
            go_wp2
            go_ret2
            exact ⟨ret_two rfl O1.out.symm, n0, rfl⟩
theorem muldiv_any (a b c : Int) (w : World) (h1 : I64 a) (h2 : I64 b) (h3 : I64 c) :
    Calls Try.prog 42 #[.int .i64 a, .int .i64 b, .int .i64 c] w fun e w' => e = .returned (.tuple #[.int .i64 (mdV a b c), .int .i64 (mdE a b c)]) ∧ ∃ n, w' = w.drewN n := by
  by_cases hc : c = 0
  · subst hc; rw [(md_zero a b).1, (md_zero a b).2]; exact muldiv_zero a b w
  · exact muldiv_ok a b c w h1 h2 h3 hc
end Go.Proofs.Ytjclioakdmilmaa
