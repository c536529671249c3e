/- The contracts of geom.twice, Twice, Side and of the reference's cross, dot, Twice, Side. -/
import Derived.Test.YtpdiojndfckmfaaGeoB
namespace Go.Proofs.Ytpdiojndfckmfaa
open Go.RowKit
open Num Geo
set_option linter.unusedVariables false
theorem prod_in {a b : Int} (h1 : -4194304 ≤ a ∧ a ≤ 4194304) (h2 : -4194304 ≤ b ∧ b ≤ 4194304) : -17592186044416 ≤ a * b ∧ a * b ≤ 17592186044416 := by
  have e1 : (a * b).natAbs ≤ 4194304 * 4194304 := by
    rw [Int.natAbs_mul]; exact Nat.mul_le_mul (by omega) (by omega)
  omega
set_option maxHeartbeats 1000000 in
theorem twice_any (ax ay bx by_ cx cy : Int) (w : World) (ha : Nr ax ay) (hb : Nr bx by_) (hc : Nr cx cy) :
    Calls Try.prog 53 #[.agg #[.int .i64 ax, .int .i64 ay], .agg #[.int .i64 bx, .int .i64 by_], .agg #[.int .i64 cx, .int .i64 cy]] w fun e w' => e = .returned (.int .i64 (tw ax ay bx by_ cx cy)) ∧ Below w.heap.size w w' := by
  unfold Nr at ha hb hc
  have p1 := prod_in (a := bx - ax) (b := cy - ay) (by omega) (by omega)
  have p2 := prod_in (a := by_ - ay) (b := cx - ax) (by omega) (by omega)
  go_enter Try.func53, Try.ntmps53
  go_wp2
  go_ret
  exact ⟨rfl, by go_grown⟩
set_option maxHeartbeats 1000000 in
theorem Twice_any (ax ay bx by_ cx cy : Int) (w : World) :
    Calls Try.prog 34 #[.agg #[.int .i64 ax, .int .i64 ay], .agg #[.int .i64 bx, .int .i64 by_], .agg #[.int .i64 cx, .int .i64 cy]] w fun e w' => e = .returned (.int .i64 (twF ax ay bx by_ cx cy)) ∧ Below w.heap.size w w' := by
  have HI := Lib.hid (near3_iff ax ay bx by_ cx cy)
  have HF : Hid (twF ax ay bx by_ cx cy = if nearL [(ax, ay), (bx, by_), (cx, cy)] = true then tw ax ay bx by_ cx cy else 0) := Lib.hid rfl
  go_enter Try.func34, Try.ntmps34
  go_wp2_with fail
  refine (near3 w ax ay bx by_ cx cy).mono ?_
  rintro e w1 ⟨rfl, hb⟩
  have HB := Lib.hid hb
  obtain ⟨c0, c1, c2, c3, c4, c5, hg⟩ := hb
  have G := Lib.hid hg
  clear hg
  cases hn : nearL [(ax, ay), (bx, by_), (cx, cy)]
  · have HF1 := Lib.hid (HF.out.trans (by rw [hn]; try rfl))
    clear hn
    go_wp2
    go_ret
    exact ⟨ret_int HF1.out.symm, G.out⟩
  · have HF1 := Lib.hid (HF.out.trans (by rw [hn]; try rfl))
    have HN := Lib.hid (HI.out.1 hn)
    clear hn
    go_wp2_with fail
    refine (twice_any ax ay bx by_ cx cy _ HN.out.1 HN.out.2.1 HN.out.2.2).mono ?_
    rintro e w2 ⟨rfl, hb2⟩
    have F2 := Lib.hid (below_on G.out hb2)
    clear hb2
    go_wp2
    go_ret
    exact ⟨ret_int HF1.out.symm, F2.out⟩
theorem twF_cases (n : Int) : (0 < n ∧ sgn n = 1 ∧ decide (0 < n) = true) ∨ (n < 0 ∧ sgn n = -1 ∧ decide (0 < n) = false ∧ decide (n < 0) = true) ∨ (n = 0 ∧ sgn n = 0) := by
  unfold sgn
  rcases Int.lt_trichotomy n 0 with h | h | h
  · right; left; exact ⟨h, by rw [if_neg (by omega), if_pos h], by simp; omega, by simpa using h⟩
  · right; right; exact ⟨h, by rw [if_neg (by omega), if_neg (by omega)]⟩
  · left; exact ⟨h, by rw [if_pos h], by simpa using h⟩
set_option maxHeartbeats 1000000 in
theorem Side_any (ax ay bx by_ cx cy : Int) (w : World) :
    Calls Try.prog 51 #[.agg #[.int .i64 ax, .int .i64 ay], .agg #[.int .i64 bx, .int .i64 by_], .agg #[.int .i64 cx, .int .i64 cy]] w fun e w' => e = .returned (.int .i64 (sgn (twF ax ay bx by_ cx cy))) ∧ Below w.heap.size w w' := by
  have HT := Lib.hid (fun v => Twice_any ax ay bx by_ cx cy v)
  generalize twF ax ay bx by_ cx cy = t at *
  rcases twF_cases t with ⟨h, hs, d⟩ | ⟨h, hs, d, d'⟩ | ⟨rfl, hs⟩
  all_goals
    have HS := Lib.hid hs
    clear hs
    rw [HS.out]
    go_enter Try.func51, Try.ntmps51
    go_wp2_with fail
    refine (HT.out _).mono ?_
    rintro e w1 ⟨rfl, hb1⟩
    have G := Lib.hid (below_on (B3_has w ax ay bx by_ cx cy).2.2.2.2.2.2 hb1)
    clear hb1
    go_wp2
    go_ret
    exact ⟨rfl, G.out⟩
set_option maxHeartbeats 1000000 in
theorem rcross_any (ax ay bx by_ cx cy dx dy : Int) (w : World) (ha : Nr ax ay) (hb : Nr bx by_) (hc : Nr cx cy) (hd : Nr dx dy) :
    Calls Try.prog 22 #[.agg #[.int .i64 ax, .int .i64 ay], .agg #[.int .i64 bx, .int .i64 by_], .agg #[.int .i64 cx, .int .i64 cy], .agg #[.int .i64 dx, .int .i64 dy]] w fun e w' => e = .returned (.int .i64 (cr ax ay bx by_ cx cy dx dy)) ∧ Below w.heap.size w w' := by
  unfold Nr at ha hb hc hd
  have p1 := prod_in (a := bx - ax) (b := dy - cy) (by omega) (by omega)
  have p2 := prod_in (a := by_ - ay) (b := dx - cx) (by omega) (by omega)
  go_enter Try.func22, Try.ntmps22
  go_wp2
  go_ret
  exact ⟨rfl, by go_grown⟩
set_option maxHeartbeats 1000000 in
theorem rdot_any (ax ay bx by_ cx cy dx dy : Int) (w : World) (ha : Nr ax ay) (hb : Nr bx by_) (hc : Nr cx cy) (hd : Nr dx dy) :
    Calls Try.prog 55 #[.agg #[.int .i64 ax, .int .i64 ay], .agg #[.int .i64 bx, .int .i64 by_], .agg #[.int .i64 cx, .int .i64 cy], .agg #[.int .i64 dx, .int .i64 dy]] w fun e w' => e = .returned (.int .i64 (dt ax ay bx by_ cx cy dx dy)) ∧ Below w.heap.size w w' := by
  unfold Nr at ha hb hc hd
  have p1 := prod_in (a := bx - ax) (b := dx - cx) (by omega) (by omega)
  have p2 := prod_in (a := by_ - ay) (b := dy - cy) (by omega) (by omega)
  go_enter Try.func55, Try.ntmps55
  go_wp2
  go_ret
  exact ⟨rfl, by go_grown⟩
end Go.Proofs.Ytpdiojndfckmfaa
