/- The contracts of cut.share and of the reference's cross, reached, along. -/
import Derived.Test.YtpdiojndfckmfaaCutB
import Derived.Test.YtpdiojndfckmfaaCutBase
import Derived.Test.YtpdiojndfckmfaaNumD
import Derived.Test.YtpdiojndfckmfaaNumK
import Derived.Test.YtpdiojndfckmfaaNumN
namespace Go.Proofs.Ytpdiojndfckmfaa
open Go.RowKit
open Num Geo Cut
set_option linter.unusedVariables false
set_option maxHeartbeats 1000000 in
theorem share_any (d n m : Int) (w : World) (hd : -4194304 ≤ d ∧ d ≤ 4194304) (hn : 0 ≤ n ∧ n ≤ m) (hm : 0 < m) (hm2 : m ≤ 70368744177664) :
    Calls Try.prog 35 #[.int .i64 d, .int .i64 n, .int .i64 m] w fun e w' => e = .returned (.int .i64 (rnd (d * n) m)) ∧ Below w.heap.size w w' := by
  have RB := Lib.hid (rnd_bound (n := d) (k := n) (d := m) (M := 4194304) (by omega) (by omega) (by omega))
  obtain ⟨s1, s2, s3⟩ := share_law (x := d * n) (q := fl (d * n) m) hm rfl
  have hq : -4194305 ≤ fl (d * n) m ∧ fl (d * n) m ≤ 4194304 := by
    have := RB.out
    rw [s3] at this
    split at this <;> omega
  have hE : mdE d n m = 0 := by rw [mdE_eq, if_neg (by omega), if_pos (by omega)]
  have hV : mdV d n m = fl (d * n) m := by unfold mdV; rw [if_pos hE]
  have MD := Lib.hid (fun v => muldiv_any d n m v (by unfold I64; omega) (by unfold I64; omega) (by unfold I64; omega))
  rw [hE, hV] at MD
  have HS := Lib.hid s3
  clear hE hV s3
  generalize rnd (d * n) m = R at *
  generalize fl (d * n) m = q at *
  have hr : wrap64 (wrap64 (d * n) - wrap64 (q * m)) = d * n - q * m := by unfold wrap64; omega
  generalize hx : d * n - q * m = r at *
  clear hx
  go_enter Try.func35, Try.ntmps35
  go_wp2_with fail
  refine (MD.out _).mono ?_
  rintro e w1 ⟨rfl, k, rfl⟩
  by_cases hc : m - r ≤ r
  · have hc' : decide (m - r ≤ r) = true := by simpa using hc
    have HS2 := HS.out
    rw [if_pos hc] at HS2
    have HS := Lib.hid HS2
    clear HS2 hc
    go_wp2
    go_ret
    exact ⟨ret_int HS.out.symm, below_dn (Below.refl _ _) _⟩
  · have hc' : decide (m - r ≤ r) = false := by simpa using hc
    have HS2 := HS.out
    rw [if_neg hc] at HS2
    have HS := Lib.hid HS2
    clear HS2 hc
    go_wp2
    go_ret
    exact ⟨ret_int HS.out.symm, below_dn (Below.refl _ _) _⟩
set_option maxHeartbeats 1000000 in
theorem ccross_any (ax ay bx by_ cx cy dx dy : Int) (w : World) (ha : Nr ax ay) (hb : Nr bx by_) (hc : Nr cx cy) (hd : Nr dx dy) :
    Calls Try.prog 37 #[.agg #[.int .i64 ax, .int .i64 ay], .agg #[.int .i64 bx, .int .i64 by_], .agg #[.int .i64 cx, .int .i64 cy], .agg #[.int .i64 dx, .int .i64 dy]] w fun e w' => e = .returned (.int .i64 (cr ax ay bx by_ cx cy dx dy)) ∧ Below w.heap.size w w' := by
  unfold Nr at ha hb hc hd
  have p1 := prod_in (a := bx - ax) (b := dy - cy) (by omega) (by omega)
  have p2 := prod_in (a := by_ - ay) (b := dx - cx) (by omega) (by omega)
  go_enter Try.func37, Try.ntmps37
  go_wp2
  go_ret
  exact ⟨rfl, by go_grown⟩
theorem decide_iff {p q : Prop} [Decidable p] [Decidable q] (h : p ↔ q) : decide p = decide q := by simp [h]
set_option maxHeartbeats 1000000 in
theorem reached_any (k d n m : Int) (w : World) (hk : -4194305 ≤ k ∧ k ≤ 4194305) (hd : -4194304 ≤ d ∧ d ≤ 4194304) (hd0 : d ≠ 0) (hn : -70368744177664 ≤ n ∧ n ≤ 70368744177664) (hm : -70368744177664 ≤ m ∧ m ≤ 70368744177664) (hm0 : m ≠ 0) :
    Calls Try.prog 56 #[.int .i64 k, .int .i64 d, .int .i64 n, .int .i64 m] w fun e w' => e = .returned (.bool (decide (k ≤ rnd (d * n) m))) ∧ Below w.heap.size w w' := by
  have e1 : mkE (2 * k - 1) (2 * d) = 0 := mkE_small (by omega) (by omega) (by omega) (by omega) (by omega)
  have e2 : mkE n m = 0 := mkE_small (by omega) (by omega) (by omega) (by omega) (by omega)
  obtain ⟨r1, r2⟩ := mk_range e1 (by unfold I64; omega) (by unfold I64; omega)
  obtain ⟨r3, r4⟩ := mk_range e2 (by unfold I64; omega) (by unfold I64; omega)
  have RP := Lib.hid (fun h => reach_pos (k := k) (d := d) (n := n) (den := m) h hm0 e1 e2)
  have RN := Lib.hid (fun h => reach_neg (k := k) (d := d) (n := n) (den := m) h hm0 e1 e2)
  have M1 := Lib.hid (fun v => rmake_any (2 * k - 1) (2 * d) v (by unfold I64; omega) (by unfold I64; omega))
  have M2 := Lib.hid (fun v => rmake_any n m v (by unfold I64; omega) (by unfold I64; omega))
  have CM := Lib.hid (fun v => rcmp_any (mkN (2 * k - 1) (2 * d)) (mkD (2 * k - 1) (2 * d)) (mkN n m) (mkD n m) v r1 r2 r3 r4)
  rw [e1] at M1
  rw [e2] at M2
  generalize cmpF (mkN (2 * k - 1) (2 * d)) (mkD (2 * k - 1) (2 * d)) (mkN n m) (mkD n m) = C at *
  generalize mkN (2 * k - 1) (2 * d) = N1 at *
  generalize mkD (2 * k - 1) (2 * d) = D1 at *
  generalize mkN n m = N2 at *
  generalize mkD n m = D2 at *
  generalize rnd (d * n) m = R at *
  clear e1 e2 r1 r2 r3 r4
  go_enter Try.func56, Try.ntmps56
  go_wp2_with fail
  refine (M1.out _).mono ?_
  rintro e w1 ⟨rfl, hb1⟩
  have G1 := Lib.hid hb1
  clear hb1
  go_wp2_with fail
  refine (M2.out _).mono ?_
  rintro e w2 ⟨rfl, hb2⟩
  have G2 := Lib.hid (below_on (below_al w1 (.cells #[.int .i64 N1, .int .i64 D1] 64)) hb2)
  have c0 : w2.cell? ⟨w1.heap.size, 0, none⟩ = some (.int .i64 N1) := cell_on (cell_new2 _).1 hb2
  have c1 : w2.cell? ⟨w1.heap.size, 1, none⟩ = some (.int .i64 D1) := cell_on (cell_new2 _).2 hb2
  clear hb2
  have c2 : (w2.alloc (.cells #[.int .i64 N2, .int .i64 D2] 64)).cell? ⟨w1.heap.size, 0, none⟩ = some (.int .i64 N1) := cell_al c0 _
  have c3 : (w2.alloc (.cells #[.int .i64 N2, .int .i64 D2] 64)).cell? ⟨w1.heap.size, 1, none⟩ = some (.int .i64 D1) := cell_al c1 _
  have G3 := Lib.hid (below_on G1.out (below_on G2.out (below_al w2 (.cells #[.int .i64 N2, .int .i64 D2] 64))))
  by_cases hneg : d < 0
  · have q1 : decide (d < 0) = true := by simpa using hneg
    have RN1 := Lib.hid (decide_iff (RN.out hneg))
    go_wp2_with fail
    refine (CM.out _).mono ?_
    rintro e w3 ⟨rfl, hb3⟩
    have G4 := Lib.hid (below_on G3.out hb3)
    clear hb3
    go_wp2
    go_ret
    exact ⟨ret_bool' RN1.out, G4.out⟩
  · have q1 : decide (d < 0) = false := by simpa using hneg
    have RP1 := Lib.hid (decide_iff (RP.out (by omega)))
    go_wp2_with fail
    refine (CM.out _).mono ?_
    rintro e w3 ⟨rfl, hb3⟩
    have G4 := Lib.hid (below_on G3.out hb3)
    clear hb3
    go_wp2
    go_ret
    exact ⟨ret_bool' RP1.out, G4.out⟩
set_option maxHeartbeats 1000000 in
theorem along_any (a d n m : Int) (w : World) (ha : -2097152 ≤ a ∧ a ≤ 2097152) (hd : -4194304 ≤ d ∧ d ≤ 4194304) (hn : (0 ≤ n ∧ n ≤ m) ∨ (m ≤ n ∧ n ≤ 0)) (hm : -70368744177664 ≤ m ∧ m ≤ 70368744177664) (hm0 : m ≠ 0) :
    Calls Try.prog 38 #[.int .i64 a, .int .i64 d, .int .i64 n, .int .i64 m] w fun e w' => e = .returned (.int .i64 (a + rnd (d * n) m)) ∧ Below w.heap.size w w' := by
  have RB := rnd_bound (n := d) (k := n) (d := m) (M := 4194304) (by omega) (by omega) (by omega)
  by_cases hd0 : d = 0
  · subst hd0
    have R0 := rnd_bound (n := 0) (k := n) (d := m) (M := 0) (by omega) (by omega) (by omega)
    have R1 : rnd (0 * n) m = 0 := by omega
    rw [R1]
    go_enter Try.func38, Try.ntmps38
    go_wp2
    go_ret
    exact ⟨ret_int (by omega), Below.refl _ _⟩
  · have RE := Lib.hid (fun k hk v => reached_any k d n m v hk hd hd0 (by omega) hm hm0)
    generalize rnd (d * n) m = R at *
    have d0 : (d == 0) = false := by simpa using hd0
    go_enter Try.func38, Try.ntmps38
    go_wp2_with fail
    go_loopw [9, 10] (fun l h wr => ∃ lo hi : Int, -4194304 ≤ lo ∧ lo ≤ R ∧ R < hi ∧ hi ≤ 4194305 ∧ l = .int .i64 lo ∧ h = .int .i64 hi ∧ Hid (Below w.heap.size w wr)) (fun l h _ => (intOf h - intOf l).toNat)
    case atStart => exact ⟨-4194304, 4194305, by omega, by omega, by omega, by omega, rfl, rfl, Lib.hid (Below.refl _ _)⟩
    case round =>
      obtain ⟨lo, hi, h1, h2, h3, h4, rfl, rfl, HW⟩ := hrel
      by_cases hg : 1 < hi - lo
      · have g1 : decide (1 < hi - lo) = true := by simpa using hg
        obtain ⟨k, hk⟩ : ∃ k, (lo + hi).tdiv 2 = k := ⟨_, rfl⟩
        have kb : lo < k ∧ k < hi := by
          have := tq (lo + hi) 2 (by omega)
          rw [hk] at this
          omega
        go_wp2_with fail
        refine (RE.out k (by omega) _).mono ?_
        rintro e w1 ⟨rfl, hb⟩
        have G := Lib.hid (below_on HW.out hb)
        clear hb
        by_cases hkr : k ≤ R
        · have q : decide (k ≤ R) = true := by simpa using hkr
          go_wp2
          go_roundw
          case rel => exact ⟨k, hi, by omega, by omega, by omega, by omega, rfl, rfl, G⟩
          case measure => simp [intOf] <;> omega
        · have q : decide (k ≤ R) = false := by simpa using hkr
          go_wp2
          go_roundw
          case rel => exact ⟨lo, k, by omega, by omega, by omega, by omega, rfl, rfl, G⟩
          case measure => simp [intOf] <;> omega
      · have g1 : decide (1 < hi - lo) = false := by simpa using hg
        have hl : lo = R := by omega
        go_wp2
        go_ret
        exact ⟨ret_int (by omega), HW.out⟩
end Go.Proofs.Ytpdiojndfckmfaa
