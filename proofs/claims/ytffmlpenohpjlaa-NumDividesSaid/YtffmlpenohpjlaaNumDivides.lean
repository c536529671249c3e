/- NumDivides returns true for all ints: the walk. -/
import Derived.Test.YtffmlpenohpjlaaNumH
import Derived.Test.YtffmlpenohpjlaaNumI
import Derived.Test.YtffmlpenohpjlaaLater
namespace Go.Proofs.Ytffmlpenohpjlaa
open Go.RowKit
open Num
set_option linter.unusedVariables false

set_option maxHeartbeats 1000000 in
theorem divides_err (a b : Int) (w : World) (h1 : I64 a) (h2 : I64 b) (hc : chk a b ≠ 0) : Calls Try.prog 3 #[.int .i64 a, .int .i64 b] w fun e w' => e = .returned (.bool true) ∧ Below w.heap.size w w' := by
  have hc' : (chk a b != 0) = true := by simpa using hc
  clear hc
  go_enter Try.func3, Try.ntmps3
  go_wp2_with fail
  refine (floor_any a b _ h1).mono ?_
  rintro e w' ⟨rfl, rfl⟩
  go_wp2_with fail
  refine (ceil_any a b _ h1).mono ?_
  rintro e w' ⟨rfl, rfl⟩
  go_wp2_with fail
  refine (round_any a b _ h1 h2).mono ?_
  rintro e w' ⟨rfl, rfl⟩
  go_wp2_with fail
  refine (rfloor_any a b _ h1 h2).mono ?_
  rintro e w' ⟨rfl, n1, rfl⟩
  go_wp2_with fail
  refine (rceil_any a b _ h1 h2).mono ?_
  rintro e w' ⟨rfl, n2, rfl⟩
  go_wp2_with fail
  refine (rround_any a b _ h1 h2).mono ?_
  rintro e w' ⟨rfl, n3, rfl⟩
  go_wp2_with fail
  refine (awake01 _).mono ?_
  rintro e w1 ⟨rfl, hb1⟩
  have F1 : Hid (Below w.heap.size w w1) := Lib.hid (below_step' (below_dr (Below.refl _ _) _) hb1)
  clear hb1
  go_wp2
  go_ret
  exact ⟨rfl, F1.out⟩
set_option maxHeartbeats 2000000 in
theorem divides_ok (a b : Int) (w : World) (h1 : I64 a) (h2 : I64 b) (hb : b ≠ 0) (ho : ¬ (a = -9223372036854775808 ∧ b = -1)) : Calls Try.prog 3 #[.int .i64 a, .int .i64 b] w fun e w' => e = .returned (.bool true) ∧ Below w.heap.size w w' := by
  have hz := chk_zero hb ho
  obtain ⟨r, e0, p1, p2, p3, p4⟩ := divides_law a b h1 hb ho
  have HF := Lib.hid (fun v => floor_any a b v h1)
  have HC := Lib.hid (fun v => ceil_any a b v h1)
  have HR := Lib.hid (fun v => round_any a b v h1 h2)
  have GF := Lib.hid (fun v => rfloor_any a b v h1 h2)
  have GC := Lib.hid (fun v => rceil_any a b v h1 h2)
  have GR := Lib.hid (fun v => rround_any a b v h1 h2)
  unfold flq clq rndq at *
  rw [hz] at HF HC HR GF GC GR
  simp only [if_true] at HF HC HR GF GC GR
  have fr := fl_range a b h1 hb ho
  unfold I64 at h1 h2 fr
  obtain ⟨h11, h12⟩ := h1
  obtain ⟨h21, h22⟩ := h2
  obtain ⟨f1, f2⟩ := fr
  have HW : Hid (wrap64 (a - wrap64 (fl a b * b)) = r) := Lib.hid (by
    rw [← e0]
    rcases Int.lt_or_gt_of_ne hb with h | h
    · have := p2 h; exact wrap_rest (by omega) (by omega)
    · have := p1 h; exact wrap_rest (by omega) (by omega))
  clear e0
  go_enter Try.func3, Try.ntmps3
  go_wp2_with fail
  refine (HF.out _).mono ?_
  rintro e w' ⟨rfl, rfl⟩
  go_wp2_with fail
  refine (HC.out _).mono ?_
  rintro e w' ⟨rfl, rfl⟩
  go_wp2_with fail
  refine (HR.out _).mono ?_
  rintro e w' ⟨rfl, rfl⟩
  go_wp2_with fail
  refine (GF.out _).mono ?_
  rintro e w' ⟨rfl, n1, rfl⟩
  go_wp2_with fail
  refine (GC.out _).mono ?_
  rintro e w' ⟨rfl, n2, rfl⟩
  go_wp2_with fail
  refine (GR.out _).mono ?_
  rintro e w' ⟨rfl, n3, rfl⟩
  have AW : ∀ (v : World), Calls Try.prog 17 #[] v fun e w' => e = .returned (.bool true) ∧ Below v.heap.size v w' := awake01
  have HA := Lib.hid AW
  clear AW
  by_cases hr : r = 0
  · obtain ⟨hc, hd⟩ := p3 hr
    rw [hr] at HW p1 p2
    rw [hc, hd]
    have h0 := HW.out
    clear p3 p4 hr hc hd
    rcases Int.lt_or_gt_of_ne hb with hn | hp
    · have b1 : decide (0 < b) = false := by simp; omega
      have b2 : decide (b < 0) = true := by simpa using hn
      clear p1 p2
      go_wp2_with fail
      refine (HA.out _).mono ?_
      rintro e w1 ⟨rfl, hb1⟩
      have F1 : Hid (Below w.heap.size w w1) := Lib.hid (below_step' (below_dr (Below.refl _ _) _) hb1)
      clear hb1
      go_wp2
      go_ret
      exact ⟨rfl, F1.out⟩
    · have b1 : decide (0 < b) = true := by simpa using hp
      have b2 : decide (b < 0) = false := by simp; omega
      clear p1 p2
      go_wp2_with fail
      refine (HA.out _).mono ?_
      rintro e w1 ⟨rfl, hb1⟩
      have F1 : Hid (Below w.heap.size w w1) := Lib.hid (below_step' (below_dr (Below.refl _ _) _) hb1)
      clear hb1
      go_wp2
      go_ret
      exact ⟨rfl, F1.out⟩
  · obtain ⟨hc, hl, hd⟩ := p4 hr
    have z0 : (r == 0) = false := by simpa using hr
    have z1 : (r != 0) = true := by simpa using hr
    have h0 := HW.out
    have h1 : wrap64 (fl a b + 1) = fl a b + 1 := by unfold wrap64; omega
    have z2 : (fl a b + 1 == fl a b) = false := by simp; omega
    rw [hc] at hd ⊢
    have HH := Lib.hid hd
    clear p3 p4 hc hd hr
    rcases Int.lt_or_gt_of_ne hb with hn | hp
    · have b1 : decide (0 < b) = false := by simp; omega
      have b2 : decide (b < 0) = true := by simpa using hn
      obtain ⟨r1, r2⟩ := p2 hn
      have b3 : decide (0 < r) = false := by simp; omega
      have b4 : decide (r ≤ b) = false := by simp; omega
      clear p1 p2
      rcases HH.out with hd | hd <;> rw [hd] <;> clear hd
      all_goals
        go_wp2_with fail
        refine (HA.out _).mono ?_
        rintro e w1 ⟨rfl, hb1⟩
        have F1 : Hid (Below w.heap.size w w1) := Lib.hid (below_step' (below_dr (Below.refl _ _) _) hb1)
        clear hb1
        go_wp2
        go_ret
        exact ⟨rfl, F1.out⟩
    · have b1 : decide (0 < b) = true := by simpa using hp
      have b2 : decide (b < 0) = false := by simp; omega
      obtain ⟨r1, r2⟩ := p1 hp
      have b3 : decide (r < 0) = false := by simp; omega
      have b4 : decide (b ≤ r) = false := by simp; omega
      clear p1 p2
      rcases HH.out with hd | hd <;> rw [hd] <;> clear hd
      all_goals
        go_wp2_with fail
        refine (HA.out _).mono ?_
        rintro e w1 ⟨rfl, hb1⟩
        have F1 : Hid (Below w.heap.size w w1) := Lib.hid (below_step' (below_dr (Below.refl _ _) _) hb1)
        clear hb1
        go_wp2
        go_ret
        exact ⟨rfl, F1.out⟩
theorem divides_wf (a b : Int) (w : World) (h1 : (Lit.int .i64 a).wf = true) (h2 : (Lit.int .i64 b).wf = true) : Calls Try.prog 3 #[.int .i64 a, .int .i64 b] w fun e w' => e = .returned (.bool true) ∧ Below w.heap.size w w' := by
  rcases chk_cases a b with ⟨hb, hc⟩ | ⟨ha, hb, hc⟩ | ⟨hb, ho, hc⟩
  · exact divides_err a b w (wf64 h1) (wf64 h2) (by rw [hc]; decide)
  · exact divides_err a b w (wf64 h1) (wf64 h2) (by rw [hc]; decide)
  · exact divides_ok a b w (wf64 h1) (wf64 h2) hb ho
end Go.Proofs.Ytffmlpenohpjlaa
