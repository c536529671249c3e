/- The cells of a segment, of the reversed one, of the moved one, as lists; the contract of the law's abs. -/
import Derived.Test.YtjclioakdmilmaaInkP
import Derived.Test.YtjclioakdmilmaaInkPlainH
namespace Go.Proofs.Ytjclioakdmilmaa
open Go.RowKit
open Num Ink
set_option linter.unusedVariables false
theorem celP_bound (ax ay bx by_ i : Int) (hi : 0 ≤ i ∧ i ≤ stp ax ay bx by_) : (-(stp ax ay bx by_) ≤ (celP ax ay bx by_ i).1 - ax ∧ (celP ax ay bx by_ i).1 - ax ≤ stp ax ay bx by_) ∧ (-(stp ax ay bx by_) ≤ (celP ax ay bx by_ i).2 - ay ∧ (celP ax ay bx by_ i).2 - ay ≤ stp ax ay bx by_) := by
  have hN := stp_nn ax ay bx by_
  rcases Int.lt_or_le 0 (stp ax ay bx by_) with h | h
  · unfold celP
    have hm : ∀ d, -(stp ax ay bx by_) ≤ i * sg d ∧ i * sg d ≤ stp ax ay bx by_ := fun d => by
      rcases sg_one d with e | e <;> rw [e] <;> omega
    cases hw : wide ax ay bx by_
    · obtain ⟨-, h2⟩ := wide_false hw
      simp only [Bool.false_eq_true, if_false]
      have h3 := rnd_bound (n := bx - ax) (k := i) (d := stp ax ay bx by_) (M := stp ax ay bx by_) (by omega) h2 (.inl hi)
      rw [Int.mul_comm] at h3
      have h4 := hm (by_ - ay)
      omega
    · obtain ⟨-, h2⟩ := wide_true hw
      simp only [if_true]
      have h3 := rnd_bound (n := by_ - ay) (k := i) (d := stp ax ay bx by_) (M := stp ax ay bx by_) (by omega) h2 (.inl hi)
      rw [Int.mul_comm] at h3
      have h4 := hm (bx - ax)
      omega
  · obtain rfl : i = 0 := by omega
    rw [celP_start]; omega
/-- the three lists of the law -/
structure Segs (ax ay bx by_ vx vy : Int) (C1 C2 C3 : List (Int × Int)) (m : Nat) : Prop where
  l1 : C1.length = m
  l2 : C2.length = m
  l3 : C3.length = m
  pos : 0 < m
  len : ((m : Nat) : Int) = stp ax ay bx by_ + 1
  le : m ≤ 4097
  first : ∀ h : 0 < C1.length, C1[0] = (ax, ay)
  last : ∀ h : m - 1 < C1.length, C1[m - 1] = (bx, by_)
  back : ∀ i (h : i < C1.length) (h' : m - 1 - i < C2.length), C2[m - 1 - i] = C1[i]
  moved : ∀ i (h : i < C1.length) (h' : i < C3.length), C3[i] = (C1[i].1 + vx, C1[i].2 + vy)
  bd : ∀ i (h : i < C1.length), (-8000 ≤ C1[i].1 ∧ C1[i].1 ≤ 8000) ∧ (-8000 ≤ C1[i].2 ∧ C1[i].2 ≤ 8000)
  step : ∀ i (h : i < C1.length) (h' : i + 1 < C1.length), (-1 ≤ C1[i + 1].1 - C1[i].1 ∧ C1[i + 1].1 - C1[i].1 ≤ 1) ∧ (-1 ≤ C1[i + 1].2 - C1[i].2 ∧ C1[i + 1].2 - C1[i].2 ≤ 1) ∧ (C1[i + 1].1 ≠ C1[i].1 ∨ C1[i + 1].2 ≠ C1[i].2)
theorem segs_of {ax ay bx by_ vx vy : Int} (h1 : -2000 ≤ ax ∧ ax ≤ 2000) (h2 : -2000 ≤ ay ∧ ay ≤ 2000) (h3 : -2000 ≤ bx ∧ bx ≤ 2000) (h4 : -2000 ≤ by_ ∧ by_ ≤ 2000) (h5 : -2000 ≤ vx ∧ vx ≤ 2000) (h6 : -2000 ≤ vy ∧ vy ≤ 2000) :
    ∃ m, Segs ax ay bx by_ vx vy (cels ax ay bx by_) (cels bx by_ ax ay) (cels (ax + vx) (ay + vy) (bx + vx) (by_ + vy)) m := by
  have hN := stp_nn ax ay bx by_
  have hN4 : stp ax ay bx by_ ≤ 4000 := by unfold stp; omega
  have na : nr ax ay = true := (nr_iff _ _).2 (by omega)
  have nb : nr bx by_ = true := (nr_iff _ _).2 (by omega)
  have nc : nr (ax + vx) (ay + vy) = true := (nr_iff _ _).2 (by omega)
  have nd : nr (bx + vx) (by_ + vy) = true := (nr_iff _ _).2 (by omega)
  rw [cels_near na nb, cels_near nb na, cels_near nc nd, stp_rev ax ay bx by_, stp_mv ax ay bx by_ vx vy]
  obtain ⟨n, hn⟩ : ∃ n : Nat, stp ax ay bx by_ = (n : Int) := ⟨(stp ax ay bx by_).toNat, by omega⟩
  have hb := celP_bound ax ay bx by_
  have hs := celP_step ax ay bx by_
  have hbk := celP_back ax ay bx by_
  have he := celP_end ax ay bx by_
  rw [hn, Int.toNat_natCast]
  rw [hn] at hb hs hbk he
  refine ⟨n + 1, celK_len _ _ _ _ _, celK_len _ _ _ _ _, celK_len _ _ _ _ _, by omega, by omega, by omega, fun h => ?_, fun h => ?_, fun i h h' => ?_, fun i h h' => ?_, fun i h => ?_, fun i h h' => ?_⟩
  · rw [celK_get]; exact celP_start _ _ _ _
  · rw [celK_get]; exact he
  · rw [celK_len] at h
    rw [celK_get, celK_get]
    have := hbk i (by omega)
    have e : ((n + 1 - 1 - i : Nat) : Int) = (n : Int) - i := by omega
    rw [e]; exact this
  · rw [celK_get, celK_get]; exact celP_mv _ _ _ _ _ _ _
  · rw [celK_len] at h
    rw [celK_get]
    have := hb i (by omega)
    omega
  · rw [celK_len] at h'
    rw [celK_get, celK_get]
    exact hs i (by omega)
/-- the absolute value, as the program reckons it -/
def absW (x : Int) : Int := if x < 0 then wrap64 (-x) else x
theorem absW_le {x : Int} (hx : I64 x) (h : absW x ≤ 2000) : x = -9223372036854775808 ∨ (-2000 ≤ x ∧ x ≤ 2000) := by
  unfold absW wrap64 at h
  unfold I64 at hx
  split at h <;> omega
theorem absW_small {x : Int} (h : -9000000000000000000 ≤ x ∧ x ≤ 9000000000000000000) : absW x = max x (-x) := by
  unfold absW
  split
  · rw [w64i _ (by omega) (by omega)]; omega
  · omega
set_option maxHeartbeats 1000000 in
theorem abs_any (x : Int) (w : World) : Calls Try.prog 25 #[.int .i64 x] w fun e u => e = .returned (.int .i64 (absW x)) ∧ Below w.heap.size w u := by
  by_cases h : x < 0
  · have e : absW x = wrap64 (-x) := by unfold absW; rw [if_pos h]
    have d1 : decide (x < 0) = true := by simpa using h
    rw [e]
    clear e h
    go_enter Try.func25, Try.ntmps25
    go_wp2
    go_ret
    exact ⟨rfl, Below.refl _ _⟩
  · have e : absW x = x := by unfold absW; rw [if_neg h]
    have d1 : decide (x < 0) = false := by simpa using h
    rw [e]
    clear e h
    go_enter Try.func25, Try.ntmps25
    go_wp2
    go_ret
    exact ⟨rfl, Below.refl _ _⟩
end Go.Proofs.Ytjclioakdmilmaa
