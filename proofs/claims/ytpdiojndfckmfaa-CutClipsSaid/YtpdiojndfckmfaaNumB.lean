/- The contracts of the reference's size, parts, signed and Round (mapsheetsref01): what they return for any ints. -/
import Derived.Test.YtpdiojndfckmfaaNumA
import Derived.Test.YtpdiojndfckmfaaCutBase
import Derived.Deep.QuietTactic
import Derived.BigQuiet
namespace Go.Proofs.Ytpdiojndfckmfaa
open Go.RowKit
open Num

set_option maxHeartbeats 400000 in
theorem rsize_any (n : Int) (w : World) (h1 : -9223372036854775808 ≤ n) (h2 : n ≤ 9223372036854775807) :
    Calls Try.prog 60 #[.int .i64 n] w fun e w' => e = .returned (.int .u64 n.natAbs) ∧ w' = w := by
  by_cases h : n < 0
  · go_enter Try.func60, Try.ntmps60
    go_wp2
    go_ret
    exact ⟨ret_int (by simp only [IntKind.wrap_u64]; omega), rfl⟩
  · go_enter Try.func60, Try.ntmps60
    go_wp2
    go_ret
    exact ⟨ret_int (by omega), rfl⟩

set_option maxHeartbeats 400000 in
theorem rsigned_any (m : Bool) (n : Int) (w : World) (h1 : 0 ≤ n) (h2 : n ≤ 18446744073709551615) :
    Calls Try.prog 61 #[.bool m, .int .u64 n] w fun e w' => e = .returned (.tuple #[.int .i64 (sgV m n), .int .i64 (sgE m n)]) ∧ w = w' := by
  rcases Int.lt_trichotomy n 9223372036854775808 with hn | hn | hn <;> cases m
  all_goals
    go_enter Try.func61, Try.ntmps61
    go_wp2
    go_ret2
    refine ⟨ret_two ?_ ?_, rfl⟩ <;> simp [sgV, sgE, IntKind.wrap_u64, wrap64] <;> omega

def qq (a b : Int) : Int := (a.natAbs / b.natAbs : Nat)
def rr (a b : Int) : Int := (a.natAbs % b.natAbs : Nat)
theorem ret_three {x y : Int} {m : Bool} {x' y' : Int} {m' : Bool} (h : x = x') (h' : y = y') (h'' : m = m') : Ending.returned (.tuple #[.int .u64 x, .int .u64 y, .bool m]) = .returned (.tuple #[.int .u64 x', .int .u64 y', .bool m']) := by rw [h, h', h'']

theorem sgn3 (a : Int) : (a < 0 ∧ decide (a < 0) = true ∧ decide (0 < a) = false) ∨ (a ≤ 0 ∧ 0 ≤ a ∧ decide (a < 0) = false ∧ decide (0 < a) = false) ∨ (0 < a ∧ decide (a < 0) = false ∧ decide (0 < a) = true) := by
  rcases Int.lt_trichotomy a 0 with h | h | h
  · exact .inl ⟨h, by simpa using h, by simp; omega⟩
  · exact .inr (.inl ⟨by omega, by omega, by simp; omega, by simp; omega⟩)
  · exact .inr (.inr ⟨h, by simp; omega, by simpa using h⟩)

theorem div_in (a b : Int) (h1 : -9223372036854775808 ≤ a) (h2 : a ≤ 9223372036854775807) : IntKind.u64.wrap (↑a.natAbs / ↑b.natAbs) = qq a b := by
  unfold qq
  have : a.natAbs / b.natAbs ≤ a.natAbs := Nat.div_le_self _ _
  rw [← Int.natCast_ediv]
  generalize a.natAbs / b.natAbs = z at *
  exact IntWalk.u64_in _ (by omega)

set_option maxHeartbeats 400000 in
theorem rparts_any (a b : Int) (w : World) (h1 : -9223372036854775808 ≤ a) (h2 : a ≤ 9223372036854775807) (h3 : -9223372036854775808 ≤ b) (h4 : b ≤ 9223372036854775807) (hb : b ≠ 0) :
    Calls Try.prog 59 #[.int .i64 a, .int .i64 b] w fun e w' => e = .returned (.tuple #[.int .u64 (qq a b), .int .u64 (rr a b), .bool (mns a b)]) ∧ ∃ n, w' = w.drewN n := by
  have hb1 : (1 : Int) ≤ b.natAbs := by omega
  have hb2 : (b.natAbs : Int) ≠ 0 := by omega
  rcases sgn3 a with ⟨ha, d1, d2⟩ | ⟨ha, ha', d1, d2⟩ | ⟨ha, d1, d2⟩ <;> rcases sgn3 b with ⟨hc, d3, d4⟩ | ⟨hc, hc', d3, d4⟩ | ⟨hc, d3, d4⟩ <;> try omega
  all_goals
    go_enter Try.func59, Try.ntmps59
    go_wp2_with fail
    go_quiet ((go_at_call 60; exact Calls.quiet_of_same (rsize_any _ _ (by omega) (by omega))))
    go_wp2
    go_ret3
    refine ⟨ret_three (div_in a b h1 h2) (by unfold rr; omega) (by simp [mns, d1, d2, d3, d4]), nq, rfl⟩

theorem qq_range (a b : Int) (h1 : -9223372036854775808 ≤ a) (h2 : a ≤ 9223372036854775807) : 0 ≤ qq a b ∧ qq a b ≤ 9223372036854775808 := by
  unfold qq
  have : a.natAbs / b.natAbs ≤ a.natAbs := Nat.div_le_self _ _
  generalize a.natAbs / b.natAbs = z at *
  omega
theorem rr_range (a b : Int) (hb : b ≠ 0) : 0 ≤ rr a b ∧ rr a b < b.natAbs := by
  unfold rr
  have : a.natAbs % b.natAbs < b.natAbs := Nat.mod_lt _ (by omega)
  omega

theorem rQ_up (a b : Int) (hb : b ≠ 0) (h : (b.natAbs : Int) - rr a b < rr a b ∨ (rr a b = b.natAbs - rr a b ∧ mns a b = false)) : (rQ a b : Int) = qq a b + 1 := by
  have h0 : a.natAbs % b.natAbs < b.natAbs := Nat.mod_lt _ (by omega)
  unfold rQ qq rr at *
  rw [if_pos]
  · push_cast; rfl
  · rcases h with h | ⟨h, h'⟩
    · left; omega
    · right; exact ⟨by omega, h'⟩
theorem rQ_down (a b : Int) (hb : b ≠ 0) (h : rr a b ≤ (b.natAbs : Int) - rr a b) (h' : rr a b ≠ b.natAbs - rr a b ∨ mns a b = true) : (rQ a b : Int) = qq a b := by
  have h0 : a.natAbs % b.natAbs < b.natAbs := Nat.mod_lt _ (by omega)
  unfold rQ qq rr at *
  rw [if_neg]
  rintro (hc | ⟨hc, hm⟩)
  · omega
  · rcases h' with h' | h'
    · omega
    · rw [hm] at h'; cases h'

set_option maxHeartbeats 400000 in
theorem rround_ok (a b : Int) (w : World) (h1 : I64 a) (h2 : I64 b) (hb : b ≠ 0) :
    Calls Try.prog 40 #[.int .i64 a, .int .i64 b] w fun e w' => e = .returned (.tuple #[.int .i64 (sgV (mns a b) (rQ a b)), .int .i64 (sgE (mns a b) (rQ a b))]) ∧ ∃ n, w' = w.drewN n := by
  unfold I64 at h1 h2
  obtain ⟨h11, h12⟩ := h1
  obtain ⟨h21, h22⟩ := h2
  have hq := qq_range a b h11 h12
  have hr := rr_range a b hb
  have hu := Lib.hid (rQ_up a b hb)
  have hd := Lib.hid (rQ_down a b hb)
  have hbe : (b == 0) = false := by simpa using hb
  have hb9 : (b.natAbs : Int) ≤ 9223372036854775808 := by omega
  go_enter Try.func40, Try.ntmps40
  go_wp2_with fail
  refine (rparts_any a b w h11 h12 h21 h22 hb).mono ?_
  rintro e w' ⟨rfl, n, rfl⟩
  go_wp2_with fail
  refine (rsize_any b _ h21 h22).mono ?_
  rintro e w' ⟨rfl, rfl⟩
  by_cases c1 : (b.natAbs : Int) - rr a b < rr a b
  · have hQ := Lib.hid (hu.out (.inl c1))
    go_wp2_with fail
    refine (rsigned_any _ _ _ (by omega) (by omega)).mono ?_
    rintro e w' ⟨rfl, rfl⟩
    go_wp2
    go_ret2
    rw [hQ.out]
    exact ⟨rfl, n, rfl⟩
  · by_cases c2 : rr a b = b.natAbs - rr a b
    · have c2b : (rr a b == b.natAbs - rr a b) = true := by simpa using c2
      cases hm : mns a b
      · have hQ := Lib.hid (hu.out (.inr ⟨c2, hm⟩))
        clear c2
        go_wp2_with fail
        refine (rsigned_any _ _ _ (by omega) (by omega)).mono ?_
        rintro e w' ⟨rfl, rfl⟩
        go_wp2
        go_ret2
        rw [hQ.out, hm]
        exact ⟨rfl, n, rfl⟩
      · have hQ := Lib.hid (hd.out (by omega) (.inr hm))
        clear c2
        go_wp2_with fail
        refine (rsigned_any _ _ _ (by omega) (by omega)).mono ?_
        rintro e w' ⟨rfl, rfl⟩
        go_wp2
        go_ret2
        rw [hQ.out, hm]
        exact ⟨rfl, n, rfl⟩
    · have hQ := Lib.hid (hd.out (by omega) (.inl c2))
      have c2b : (rr a b == b.natAbs - rr a b) = false := by simpa using c2
      go_wp2_with fail
      refine (rsigned_any _ _ _ (by omega) (by omega)).mono ?_
      rintro e w' ⟨rfl, rfl⟩
      go_wp2
      go_ret2
      rw [hQ.out]
      exact ⟨rfl, n, rfl⟩

set_option maxHeartbeats 400000 in
theorem rround_div (a : Int) (w : World) :
    Calls Try.prog 40 #[.int .i64 a, .int .i64 0] w fun e w' => e = .returned (.tuple #[.int .i64 0, .int .i64 21]) ∧ ∃ n, w' = w.drewN n := by
  go_enter Try.func40, Try.ntmps40
  go_wp2
  go_ret2
  exact ⟨rfl, 0, rfl⟩

theorem rround_any (a b : Int) (w : World) (h1 : I64 a) (h2 : I64 b) :
    Calls Try.prog 40 #[.int .i64 a, .int .i64 b] w fun e w' => e = .returned (.tuple #[.int .i64 (rndq a b), .int .i64 (chk a b)]) ∧ ∃ n, w' = w.drewN n := by
  unfold rndq
  rcases chk_cases a b with ⟨rfl, hc⟩ | ⟨rfl, rfl, hc⟩ | ⟨hb, ho, hc⟩
  · rw [hc]; exact rround_div a w
  · rw [hc]
    have h := rround_ok _ _ w h1 h2 (by decide)
    rw [rQ_over.1, rQ_over.2] at h
    exact h
  · rw [hc]
    have h := rround_ok _ _ w h1 h2 hb
    rw [(rQ_sg a b h1 hb ho).1, (rQ_sg a b h1 hb ho).2] at h
    exact h
end Go.Proofs.Ytpdiojndfckmfaa
