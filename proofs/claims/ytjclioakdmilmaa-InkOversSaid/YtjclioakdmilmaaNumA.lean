/- The contracts of num.size, num.check, num.Floor and num.Round: what they return for any ints. -/
import Derived.Test.YtjclioakdmilmaaRows
import Derived.Test.YtjclioakdmilmaaNumPlain
import Derived.WalkKit
import Derived.WalkSpells
import Derived.WalkLawsBesides
import Derived.Handy
import Derived.Lib.Hide
namespace Go.Proofs.Ytjclioakdmilmaa
open Go.RowKit
open Num

theorem ret_int {k : IntKind} {a b : Int} (h : a = b) : Ending.returned (.int k a) = .returned (.int k b) := by rw [h]
theorem ret_two {k l : IntKind} {a b c d : Int} (h : a = c) (h' : b = d) : Ending.returned (.tuple #[.int k a, .int l b]) = .returned (.tuple #[.int k c, .int l d]) := by rw [h, h']

set_option maxHeartbeats 400000 in
theorem size_any (n : Int) (w : World) (h1 : -9223372036854775808 ≤ n) (h2 : n ≤ 9223372036854775807) :
    Calls Try.prog 41 #[.int .i64 n] w fun e w' => e = .returned (.int .u64 n.natAbs) ∧ w = w' := by
  by_cases h : n < 0
  · go_enter Try.func41, Try.ntmps41
    go_wp2
    go_ret
    exact ⟨ret_int (by simp only [IntKind.wrap_u64]; omega), rfl⟩
  · go_enter Try.func41, Try.ntmps41
    go_wp2
    go_ret
    exact ⟨ret_int (by omega), rfl⟩

set_option maxHeartbeats 400000 in
theorem check_any (a b : Int) (w : World) :
    Calls Try.prog 45 #[.int .i64 a, .int .i64 b] w fun e w' => e = .returned (.int .i64 (chk a b)) ∧ w = w' := by
  go_enter Try.func45, Try.ntmps45
  go_wp2
  all_goals
    go_ret
    exact ⟨ret_int (by unfold chk; simp_all), rfl⟩

theorem chk_zero {a b : Int} (hb : b ≠ 0) (ho : ¬ (a = -9223372036854775808 ∧ b = -1)) : chk a b = 0 := by unfold chk; rw [if_neg hb, if_neg ho]

set_option maxHeartbeats 400000 in
theorem floor_ok (a b : Int) (w : World) (h1 : I64 a) (hb : b ≠ 0) (ho : ¬ (a = -9223372036854775808 ∧ b = -1)) :
    Calls Try.prog 40 #[.int .i64 a, .int .i64 b] w fun e w' => e = .returned (.tuple #[.int .i64 (fl a b), .int .i64 0]) ∧ w = w' := by
  have hr := tdiv_range a b h1 hb ho
  have hf := fl_range a b h1 hb ho
  have hfl := Lib.hid (fl_of_t a b hb)
  have hz := Lib.hid (chk_zero hb ho)
  unfold I64 at hr hf
  obtain ⟨hr1, hr2⟩ := hr
  obtain ⟨hf1, hf2⟩ := hf
  clear ho h1
  go_enter Try.func40, Try.ntmps40
  go_wp2_with fail
  refine (check_any _ _ _).mono ?_
  rintro e w' ⟨rfl, rfl⟩
  rw [hz.out]
  go_wp2
  all_goals
    go_ret2
    refine ⟨ret_two ?_ rfl, rfl⟩
    have hk := hfl.out
    clear hfl hz
    try unfold wrap64
    by_cases hA : a.tmod b < 0 <;> by_cases hB : b < 0 <;> simp [hA, hB] at * <;> first | omega | (split at hk <;> omega) | simp_all

set_option maxHeartbeats 400000 in
theorem floor_div (a : Int) (w : World) :
    Calls Try.prog 40 #[.int .i64 a, .int .i64 0] w fun e w' => e = .returned (.tuple #[.int .i64 0, .int .i64 21]) ∧ w = w' := by
  have hz := Lib.hid (show chk a 0 = 21 from rfl)
  go_enter Try.func40, Try.ntmps40
  go_wp2_with fail
  refine (check_any _ _ _).mono ?_
  rintro e w' ⟨rfl, rfl⟩
  rw [hz.out]
  go_wp2
  go_ret2
  exact ⟨rfl, rfl⟩

set_option maxHeartbeats 400000 in
theorem floor_over (w : World) :
    Calls Try.prog 40 #[.int .i64 (-9223372036854775808), .int .i64 (-1)] w fun e w' => e = .returned (.tuple #[.int .i64 0, .int .i64 15]) ∧ w = w' := by
  have hz := Lib.hid (show chk (-9223372036854775808) (-1) = 15 from rfl)
  go_enter Try.func40, Try.ntmps40
  go_wp2_with fail
  refine (check_any _ _ _).mono ?_
  rintro e w' ⟨rfl, rfl⟩
  rw [hz.out]
  go_wp2
  go_ret2
  exact ⟨rfl, rfl⟩

/-- the quotient that Floor returns, with its error -/
def flq (a b : Int) : Int := if chk a b = 0 then fl a b else 0
def rndq (a b : Int) : Int := if chk a b = 0 then rnd a b else 0

theorem chk_cases (a b : Int) : (b = 0 ∧ chk a b = 21) ∨ (a = -9223372036854775808 ∧ b = -1 ∧ chk a b = 15) ∨ (b ≠ 0 ∧ ¬ (a = -9223372036854775808 ∧ b = -1) ∧ chk a b = 0) := by
  unfold chk
  by_cases hb : b = 0
  · simp [hb]
  · by_cases ho : a = -9223372036854775808 ∧ b = -1
    · simp [ho]
    · simp [hb, ho]

theorem floor_any (a b : Int) (w : World) (h1 : I64 a) :
    Calls Try.prog 40 #[.int .i64 a, .int .i64 b] w fun e w' => e = .returned (.tuple #[.int .i64 (flq a b), .int .i64 (chk a b)]) ∧ w = w' := by
  unfold flq
  rcases chk_cases a b with ⟨rfl, hc⟩ | ⟨rfl, rfl, hc⟩ | ⟨hb, ho, hc⟩
  · rw [hc]; exact floor_div a w
  · rw [hc]; exact floor_over w
  · rw [hc]; exact floor_ok a b w h1 hb ho

set_option maxHeartbeats 400000 in
theorem round_err (a b : Int) (w : World) (h1 : I64 a) (hc : chk a b ≠ 0) :
    Calls Try.prog 29 #[.int .i64 a, .int .i64 b] w fun e w' => e = .returned (.tuple #[.int .i64 0, .int .i64 (chk a b)]) ∧ w = w' := by
  go_enter Try.func29, Try.ntmps29
  go_wp2_with fail
  refine (floor_any _ _ _ h1).mono ?_
  rintro e w' ⟨rfl, rfl⟩
  have hc' : (chk a b != 0) = true := by simpa using hc
  go_wp2
  go_ret2
  exact ⟨rfl, rfl⟩

theorem wrap_rest {a b q : Int} (h1 : -9223372036854775808 ≤ a - b * q) (h2 : a - b * q ≤ 9223372036854775807) : wrap64 (a - wrap64 (q * b)) = a - b * q := by
  rw [Int.mul_comm q b]; unfold wrap64; omega

set_option maxHeartbeats 400000 in
theorem round_ok (a b : Int) (w : World) (h1 : I64 a) (h2 : I64 b) (hb : b ≠ 0) (ho : ¬ (a = -9223372036854775808 ∧ b = -1)) :
    Calls Try.prog 29 #[.int .i64 a, .int .i64 b] w fun e w' => e = .returned (.tuple #[.int .i64 (rnd a b), .int .i64 0]) ∧ w = w' := by
  have hf := fl_range a b h1 hb ho
  have hr := rnd_range a b h1 hb ho
  have hk := Lib.hid (rnd_of_fl a b hb)
  have ht := fl_rest a b hb
  go_enter Try.func29, Try.ntmps29
  go_wp2_with fail
  refine (floor_ok _ _ _ h1 hb ho).mono ?_
  rintro e w' ⟨rfl, rfl⟩
  generalize fl a b = q at *
  unfold I64 at *
  obtain ⟨h21, h22⟩ := h2
  obtain ⟨hf1, hf2⟩ := hf
  obtain ⟨hr1, hr2⟩ := hr
  go_wp2_with fail
  have hx1 : -9223372036854775808 ≤ a - b * q := by omega
  have hx2 : a - b * q ≤ 9223372036854775807 := by omega
  rw [wrap_rest hx1 hx2]
  refine (size_any _ _ hx1 hx2).mono ?_
  rintro e w' ⟨rfl, rfl⟩
  go_wp2_with fail
  refine (size_any _ _ h21 h22).mono ?_
  rintro e w' ⟨rfl, rfl⟩
  generalize (a - b * q).natAbs = r at *
  have hb0 : b.natAbs ≤ 9223372036854775808 := by omega
  have hs : IntKind.u64.wrap (b.natAbs - r) = b.natAbs - r := IntWalk.u64_in _ (by omega)
  clear ho h1 hx1 hx2
  go_wp2
  all_goals
    go_ret2
    refine ⟨ret_two ?_ rfl, rfl⟩
    have hk' := hk.out
    clear hk
    split at hk' <;> (try unfold wrap64) <;> omega

theorem round_any (a b : Int) (w : World) (h1 : I64 a) (h2 : I64 b) :
    Calls Try.prog 29 #[.int .i64 a, .int .i64 b] w fun e w' => e = .returned (.tuple #[.int .i64 (rndq a b), .int .i64 (chk a b)]) ∧ w = w' := by
  unfold rndq
  rcases chk_cases a b with ⟨hb, hc⟩ | ⟨ha, hb, hc⟩ | ⟨hb, ho, hc⟩
  · rw [if_neg (by rw [hc]; decide)]; exact round_err a b w h1 (by rw [hc]; decide)
  · rw [if_neg (by rw [hc]; decide)]; exact round_err a b w h1 (by rw [hc]; decide)
  · rw [if_pos hc, hc]; exact round_ok a b w h1 h2 hb ho
end Go.Proofs.Ytjclioakdmilmaa
