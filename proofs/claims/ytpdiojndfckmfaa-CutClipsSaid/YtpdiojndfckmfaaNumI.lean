/- The contracts of the reference's Floor, Ceil, Gcd and Valid (mapsheetsref01). -/
import Derived.Test.YtpdiojndfckmfaaNumD
import Derived.Test.YtpdiojndfckmfaaNumE
import Derived.Test.YtpdiojndfckmfaaCutBase
namespace Go.Proofs.Ytpdiojndfckmfaa
open Go.RowKit
open Num
set_option linter.unusedVariables false

theorem fQ_up (a b : Int) (hm : mns a b = true) (h : 0 < rr a b) : (fQ a b : Int) = qq a b + 1 := by
  unfold fQ qq rr at *
  rw [if_pos ⟨hm, by omega⟩]; push_cast; rfl
theorem fQ_down (a b : Int) (h : mns a b = false ∨ rr a b ≤ 0) : (fQ a b : Int) = qq a b := by
  unfold fQ qq rr at *
  rw [if_neg]
  rintro ⟨hm, hc⟩
  rcases h with h | h
  · rw [h] at hm; cases hm
  · omega
theorem cQ_up (a b : Int) (hm : mns a b = false) (h : 0 < rr a b) : (cQ a b : Int) = qq a b + 1 := by
  unfold cQ qq rr at *
  rw [if_pos ⟨hm, by omega⟩]; push_cast; rfl
theorem cQ_down (a b : Int) (h : mns a b = true ∨ rr a b ≤ 0) : (cQ a b : Int) = qq a b := by
  unfold cQ qq rr at *
  rw [if_neg]
  rintro ⟨hm, hc⟩
  rcases h with h | h
  · rw [h] at hm; cases hm
  · omega

set_option maxHeartbeats 400000 in
theorem rfloor_ok (a b : Int) (w : World) (h1 : I64 a) (h2 : I64 b) (hb : b ≠ 0) :
    Calls Try.prog 66 #[.int .i64 a, .int .i64 b] w fun e w' => e = .returned (.tuple #[.int .i64 (sgV (mns a b) (fQ a b)), .int .i64 (sgE (mns a b) (fQ a b))]) ∧ ∃ n, w' = w.drewN n := by
  unfold I64 at h1 h2
  obtain ⟨h11, h12⟩ := h1
  obtain ⟨h21, h22⟩ := h2
  have hq := qq_range a b h11 h12
  have hr := rr_range a b hb
  have hu := Lib.hid (fQ_up a b)
  have hd := Lib.hid (fQ_down a b)
  have hbe : (b == 0) = false := by simpa using hb
  go_enter Try.func66, Try.ntmps66
  go_wp2_with fail
  refine (rparts_any a b w h11 h12 h21 h22 hb).mono ?_
  rintro e w' ⟨rfl, n, rfl⟩
  cases hm : mns a b
  · have hQ := Lib.hid (hd.out (.inl hm))
    go_wp2_with fail
    refine (rsigned_any _ _ _ (by omega) (by omega)).mono ?_
    rintro e w' ⟨rfl, rfl⟩
    go_wp2
    go_ret2
    rw [hQ.out, hm]
    exact ⟨rfl, n, rfl⟩
  · by_cases c1 : 0 < rr a b
    · have hQ := Lib.hid (hu.out hm c1)
      go_wp2_with fail
      refine (rsigned_any _ _ _ (by omega) (by omega)).mono ?_
      rintro e w' ⟨rfl, rfl⟩
      go_wp2
      go_ret2
      rw [hQ.out, hm]
      exact ⟨rfl, n, rfl⟩
    · have hQ := Lib.hid (hd.out (.inr (by omega)))
      go_wp2_with fail
      refine (rsigned_any _ _ _ (by omega) (by omega)).mono ?_
      rintro e w' ⟨rfl, rfl⟩
      go_wp2
      go_ret2
      rw [hQ.out, hm]
      exact ⟨rfl, n, rfl⟩
set_option maxHeartbeats 400000 in
theorem rfloor_div (a : Int) (w : World) :
    Calls Try.prog 66 #[.int .i64 a, .int .i64 0] w fun e w' => e = .returned (.tuple #[.int .i64 0, .int .i64 21]) ∧ ∃ n, w' = w.drewN n := by
  go_enter Try.func66, Try.ntmps66
  go_wp2
  go_ret2
  exact ⟨rfl, 0, rfl⟩
theorem rfloor_any (a b : Int) (w : World) (h1 : I64 a) (h2 : I64 b) :
    Calls Try.prog 66 #[.int .i64 a, .int .i64 b] w fun e w' => e = .returned (.tuple #[.int .i64 (flq a b), .int .i64 (chk a b)]) ∧ ∃ n, w' = w.drewN n := by
  unfold flq
  rcases chk_cases a b with ⟨rfl, hc⟩ | ⟨ha, hb, hc⟩ | ⟨hb, ho, hc⟩
  · rw [hc, if_neg (by decide)]; exact rfloor_div a w
  · rw [hc, if_neg (by decide)]
    subst ha; subst hb
    have h := rfloor_ok (-9223372036854775808) (-1) w h1 h2 (by decide)
    rw [fQ_over.1, fQ_over.2] at h; exact h
  · rw [hc, if_pos rfl]
    have h := rfloor_ok a b w h1 h2 hb
    rw [(fQ_sg a b h1 hb ho).1, (fQ_sg a b h1 hb ho).2] at h; exact h

end Go.Proofs.Ytpdiojndfckmfaa
