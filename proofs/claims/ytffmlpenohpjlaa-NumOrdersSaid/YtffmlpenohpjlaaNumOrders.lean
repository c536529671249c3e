/- NumOrders returns true for all pairs of int16: the walk. -/
import Derived.Test.YtffmlpenohpjlaaNumH
import Derived.Test.YtffmlpenohpjlaaNumPlainK
import Derived.Test.YtffmlpenohpjlaaBox
namespace Go.Proofs.Ytffmlpenohpjlaa
open Go.RowKit
open Num
set_option linter.unusedVariables false

set_option maxHeartbeats 1000000 in
theorem orders_ok (a0 a1 b0 b1 c0 c1 : Int) (w : World) (ha0 : -32768 ≤ a0) (ha0' : a0 ≤ 32767) (ha1 : -32768 ≤ a1) (ha1' : a1 ≤ 32767) (hb0 : -32768 ≤ b0) (hb0' : b0 ≤ 32767) (hb1 : -32768 ≤ b1) (hb1' : b1 ≤ 32767) (hc0 : -32768 ≤ c0) (hc0' : c0 ≤ 32767) (hc1 : -32768 ≤ c1) (hc1' : c1 ≤ 32767)
    (za : a1 ≠ 0) (zb : b1 ≠ 0) (zc : c1 ≠ 0) :
    Calls Try.prog 10 #[.agg #[.int .i16 a0, .int .i16 a1], .agg #[.int .i16 b0, .int .i16 b1], .agg #[.int .i16 c0, .int .i16 c1]] w fun e w' => e = .returned (.bool true) ∧ Below w.heap.size w w' := by
  have MX := Lib.hid (fun v => make_any a0 a1 v ⟨by omega, by omega⟩ ⟨by omega, by omega⟩)
  have MY := Lib.hid (fun v => make_any b0 b1 v ⟨by omega, by omega⟩ ⟨by omega, by omega⟩)
  have MZ := Lib.hid (fun v => make_any c0 c1 v ⟨by omega, by omega⟩ ⟨by omega, by omega⟩)
  obtain ⟨e1, v1, x1, x2, x3, x4⟩ := mk16 ha0 ha0' ha1 ha1' za
  obtain ⟨e2, v2, y1, y2, y3, y4⟩ := mk16 hb0 hb0' hb1 hb1' zb
  obtain ⟨e3, v3, z1, z2, z3, z4⟩ := mk16 hc0 hc0' hc1 hc1' zc
  rw [e1] at MX
  rw [e2] at MY
  rw [e3] at MZ
  have t1 : (a1 == 0) = false := by simpa using za
  have t2 : (b1 == 0) = false := by simpa using zb
  have t3 : (c1 == 0) = false := by simpa using zc
  generalize mkN a0 a1 = xn at *
  generalize mkD a0 a1 = xd at *
  generalize mkN b0 b1 = yn at *
  generalize mkD b0 b1 = yd at *
  generalize mkN c0 c1 = zn at *
  generalize mkD c0 c1 = zd at *
  have ol := orders_law v1 v2 v3
  have CXY := Lib.hid (fun v => cmp_any xn xd yn yd v ⟨by omega, by omega⟩ ⟨by omega, by omega⟩ ⟨by omega, by omega⟩ ⟨by omega, by omega⟩)
  have CYZ := Lib.hid (fun v => cmp_any yn yd zn zd v ⟨by omega, by omega⟩ ⟨by omega, by omega⟩ ⟨by omega, by omega⟩ ⟨by omega, by omega⟩)
  have CXZ := Lib.hid (fun v => cmp_any xn xd zn zd v ⟨by omega, by omega⟩ ⟨by omega, by omega⟩ ⟨by omega, by omega⟩ ⟨by omega, by omega⟩)
  generalize cmpF xn xd yn yd = n at *
  generalize cmpF yn yd zn zd = p at *
  generalize cmpF xn xd zn zd = r at *
  have OL := Lib.hid ol
  clear ol
  have q1 := mul16 x1 x2 y3 y4
  have q2 := mul16 y1 y2 x3 x4
  clear za zb zc v1 v2 v3 e1 e2 e3
  go_enter Try.func10, Try.ntmps10
  go_wp2_with fail
  refine (MX.out _).mono ?_
  rintro e w1 ⟨rfl, hb1⟩
  have F1 := Lib.hid (below_on (below_on (below_on (below_al w _) (below_al _ _)) (below_al _ _)) hb1)
  have fa1 : w1.cell? ⟨w.heap.size, 1, none⟩ = some (.int .i16 a1) := by
    refine cell_on ?_ hb1
    rw [World.cell?_alloc_past _ _ _ (by simp; try omega), World.cell?_alloc_past _ _ _ (by simp)]; simp
  have fb0 : w1.cell? ⟨w.heap.size + 1, 0, none⟩ = some (.int .i16 b0) := by
    refine cell_on ?_ hb1
    rw [World.cell?_alloc_past _ _ _ (by simp)]; simp
  have fb1 : w1.cell? ⟨w.heap.size + 1, 1, none⟩ = some (.int .i16 b1) := by
    refine cell_on ?_ hb1
    rw [World.cell?_alloc_past _ _ _ (by simp)]; simp
  have sz2 : ((w.alloc (.cells #[.int .i16 a0, .int .i16 a1] 42)).alloc (.cells #[.int .i16 b0, .int .i16 b1] 42)).heap.size = w.heap.size + 1 + 1 := by simp
  have fc0 : w1.cell? ⟨w.heap.size + 1 + 1, 0, none⟩ = some (.int .i16 c0) := by
    refine cell_on ?_ hb1
    rw [← sz2]; exact (cell_new2 _).1
  have fc1 : w1.cell? ⟨w.heap.size + 1 + 1, 1, none⟩ = some (.int .i16 c1) := by
    refine cell_on ?_ hb1
    rw [← sz2]; exact (cell_new2 _).2
  clear sz2
  have ha := cell_lt fa1
  have hb := cell_lt fb1
  have hc := cell_lt fc1
  clear hb1
  go_wp2_with fail
  refine (MY.out _).mono ?_
  rintro e w2 ⟨rfl, hb2⟩
  have F2 := Lib.hid (below_on (below_on F1.out (below_al _ _)) hb2)
  have ga1 := cell_on (cell_al fa1 _) hb2
  have gb1 := cell_on (cell_al fb1 _) hb2
  have gc0 := cell_on (cell_al fc0 _) hb2
  have gc1 := cell_on (cell_al fc1 _) hb2
  obtain ⟨p0, p1⟩ := box2 hb2
  clear hb2 fa1 fb0 fb1 fc0 fc1 ha hb hc
  have ha := cell_lt ga1
  have hb := cell_lt gb1
  have hc := cell_lt gc1
  have hp := cell_lt p0
  go_wp2_with fail
  refine (MZ.out _).mono ?_
  rintro e w3 ⟨rfl, hb3⟩
  have F3 := Lib.hid (below_on (below_on F2.out (below_al _ _)) hb3)
  have fa1 := cell_on (cell_al ga1 _) hb3
  have fb1 := cell_on (cell_al gb1 _) hb3
  have fc1 := cell_on (cell_al gc1 _) hb3
  have r0 := cell_on (cell_al p0 _) hb3
  have r1 := cell_on (cell_al p1 _) hb3
  obtain ⟨s0, s1⟩ := box2 hb3
  clear hb3 ga1 gb1 gc0 gc1 p0 p1 ha hb hc hp
  have ha := cell_lt fa1
  have hb := cell_lt fb1
  have hc := cell_lt fc1
  have hr := cell_lt r0
  have hs := cell_lt s0
  go_wp2_with fail
  go_quiet (fail)
  have k0 : ((w3.alloc (.cells #[.int .i64 zn, .int .i64 zd] 34)).drewN nq).cell? ⟨w1.heap.size, 0, none⟩ = some (.int .i64 xn) := cell_al r0 _
  have k1 : ((w3.alloc (.cells #[.int .i64 zn, .int .i64 zd] 34)).drewN nq).cell? ⟨w1.heap.size, 1, none⟩ = some (.int .i64 xd) := cell_al r1 _
  have k2 : ((w3.alloc (.cells #[.int .i64 zn, .int .i64 zd] 34)).drewN nq).cell? ⟨w2.heap.size, 0, none⟩ = some (.int .i64 yn) := cell_al s0 _
  have k3 : ((w3.alloc (.cells #[.int .i64 zn, .int .i64 zd] 34)).drewN nq).cell? ⟨w2.heap.size, 1, none⟩ = some (.int .i64 yd) := cell_al s1 _
  have k4 : ((w3.alloc (.cells #[.int .i64 zn, .int .i64 zd] 34)).drewN nq).cell? ⟨w3.heap.size, 0, none⟩ = some (.int .i64 zn) := by simp
  have k5 : ((w3.alloc (.cells #[.int .i64 zn, .int .i64 zd] 34)).drewN nq).cell? ⟨w3.heap.size, 1, none⟩ = some (.int .i64 zd) := by simp
  have F4 : Hid (Below w.heap.size w ((w3.alloc (.cells #[.int .i64 zn, .int .i64 zd] 34)).drewN nq)) := Lib.hid (below_dn (below_on F3.out (below_al _ _)) _)
  generalize (w3.alloc (.cells #[.int .i64 zn, .int .i64 zd] 34)).drewN nq = u at *
  clear fa1 fb1 fc1 r0 r1 s0 s1 ha hb hc hr hs
  go_wp2_with fail
  refine (CXY.out _).mono ?_
  rintro e w4 ⟨rfl, hb4⟩
  have F5 := Lib.hid (below_on F4.out hb4)
  have x0' := cell_on k0 hb4
  have x1' := cell_on k1 hb4
  have y0' := cell_on k2 hb4
  have y1' := cell_on k3 hb4
  have z0' := cell_on k4 hb4
  have z1' := cell_on k5 hb4
  clear hb4 k0 k1 k2 k3 k4 k5
  rcases OL.out with ⟨h, hn, hne, ht⟩ | ⟨h1, h2, hn, ht⟩ | ⟨h, hn, hne⟩
  · have n1 : (xn * yd == yn * xd) = false := by simp; omega
    have n2 : ¬ (xn * yd = yn * xd) := by omega
    have HT := Lib.hid ht
    subst hn
    clear ht OL
    rcases (show ¬ xn = yn ∨ (xn = yn ∧ ¬ xd = yd) by by_cases e : xn = yn <;> simp_all) with e | ⟨rfl, e⟩
    all_goals
      clear hne
      go_wp2_with fail
      refine (awake01 _).mono ?_
      rintro e w5 ⟨rfl, hb5⟩
      have F6 := Lib.hid (below_on F5.out hb5)
      have x0 := cell_on x0' hb5
      have x1 := cell_on x1' hb5
      have y0 := cell_on y0' hb5
      have y1 := cell_on y1' hb5
      have z0 := cell_on z0' hb5
      have z1 := cell_on z1' hb5
      clear hb5 x0' x1' y0' y1' z0' z1'
      rcases HT.out with h | ⟨h, h'⟩
      · have d : decide (0 < p) = true := by simpa using h
        clear h
        go_wp2_with fail
        refine (CYZ.out _).mono ?_
        rintro e w6 ⟨rfl, hb6⟩
        have F7 := Lib.hid (below_on F6.out hb6)
        clear hb6
        go_wp2
        go_ret
        exact ⟨rfl, F7.out⟩
      · have d : decide (0 < p) = false := by simp; omega
        have d' : decide (r ≤ 0) = true := by simpa using h'
        clear h h'
        go_wp2_with fail
        refine (CYZ.out _).mono ?_
        rintro e w6 ⟨rfl, hb6⟩
        have F7 := Lib.hid (below_on F6.out hb6)
        have k0 := cell_on x0 hb6
        have k1 := cell_on x1 hb6
        have k2 := cell_on z0 hb6
        have k3 := cell_on z1 hb6
        clear hb6 x0 x1 y0 y1 z0 z1
        go_wp2_with fail
        refine (CXZ.out _).mono ?_
        rintro e w7 ⟨rfl, hb7⟩
        have F8 := Lib.hid (below_on F7.out hb7)
        clear hb7
        go_wp2
        go_ret
        exact ⟨rfl, F8.out⟩
  · subst h1
    subst h2
    have HT := Lib.hid ht
    subst hn
    clear ht OL
    go_wp2_with fail
    refine (awake01 _).mono ?_
    rintro e w5 ⟨rfl, hb5⟩
    have F6 := Lib.hid (below_on F5.out hb5)
    have x0 := cell_on x0' hb5
    have x1 := cell_on x1' hb5
    have y0 := cell_on y0' hb5
    have y1 := cell_on y1' hb5
    have z0 := cell_on z0' hb5
    have z1 := cell_on z1' hb5
    clear hb5 x0' x1' y0' y1' z0' z1'
    rcases HT.out with h | ⟨h, h'⟩
    · have d : decide (0 < p) = true := by simpa using h
      clear h
      go_wp2_with fail
      refine (CYZ.out _).mono ?_
      rintro e w6 ⟨rfl, hb6⟩
      have F7 := Lib.hid (below_on F6.out hb6)
      clear hb6
      go_wp2
      go_ret
      exact ⟨rfl, F7.out⟩
    · have d : decide (0 < p) = false := by simp; omega
      have d' : decide (r ≤ 0) = true := by simpa using h'
      clear h h'
      go_wp2_with fail
      refine (CYZ.out _).mono ?_
      rintro e w6 ⟨rfl, hb6⟩
      have F7 := Lib.hid (below_on F6.out hb6)
      have k0 := cell_on x0 hb6
      have k1 := cell_on x1 hb6
      have k2 := cell_on z0 hb6
      have k3 := cell_on z1 hb6
      clear hb6 x0 x1 y0 y1 z0 z1
      go_wp2_with fail
      refine (CXZ.out _).mono ?_
      rintro e w7 ⟨rfl, hb7⟩
      have F8 := Lib.hid (below_on F7.out hb7)
      clear hb7
      go_wp2
      go_ret
      exact ⟨rfl, F8.out⟩
  · have n1 : (xn * yd == yn * xd) = false := by simp; omega
    have n2 : ¬ (xn * yd = yn * xd) := by omega
    subst hn
    clear OL
    rcases (show ¬ xn = yn ∨ (xn = yn ∧ ¬ xd = yd) by by_cases e : xn = yn <;> simp_all) with e | ⟨rfl, e⟩
    all_goals
      clear hne
      go_wp2_with fail
      refine (awake01 _).mono ?_
      rintro e w5 ⟨rfl, hb5⟩
      have F6 := Lib.hid (below_on F5.out hb5)
      have x0 := cell_on x0' hb5
      have x1 := cell_on x1' hb5
      have y0 := cell_on y0' hb5
      have y1 := cell_on y1' hb5
      have z0 := cell_on z0' hb5
      have z1 := cell_on z1' hb5
      clear hb5 x0' x1' y0' y1' z0' z1'
      go_wp2
      go_ret
      exact ⟨rfl, F6.out⟩
set_option maxHeartbeats 1000000 in
theorem orders_zero (a0 a1 b0 b1 c0 c1 : Int) (w : World) (ha0 : -32768 ≤ a0) (ha0' : a0 ≤ 32767) (ha1 : -32768 ≤ a1) (ha1' : a1 ≤ 32767) (hb0 : -32768 ≤ b0) (hb0' : b0 ≤ 32767) (hb1 : -32768 ≤ b1) (hb1' : b1 ≤ 32767) (hc0 : -32768 ≤ c0) (hc0' : c0 ≤ 32767) (hc1 : -32768 ≤ c1) (hc1' : c1 ≤ 32767)
    (hz : a1 = 0 ∨ b1 = 0 ∨ c1 = 0) :
    Calls Try.prog 10 #[.agg #[.int .i16 a0, .int .i16 a1], .agg #[.int .i16 b0, .int .i16 b1], .agg #[.int .i16 c0, .int .i16 c1]] w fun e w' => e = .returned (.bool true) ∧ Below w.heap.size w w' := by
  have MX := Lib.hid (fun v => make_any a0 a1 v ⟨by omega, by omega⟩ ⟨by omega, by omega⟩)
  have MY := Lib.hid (fun v => make_any b0 b1 v ⟨by omega, by omega⟩ ⟨by omega, by omega⟩)
  have MZ := Lib.hid (fun v => make_any c0 c1 v ⟨by omega, by omega⟩ ⟨by omega, by omega⟩)
  generalize mkN a0 a1 = xn at *
  generalize mkD a0 a1 = xd at *
  generalize mkN b0 b1 = yn at *
  generalize mkD b0 b1 = yd at *
  generalize mkN c0 c1 = zn at *
  generalize mkD c0 c1 = zd at *
  generalize mkE a0 a1 = xe at *
  generalize mkE b0 b1 = ye at *
  generalize mkE c0 c1 = ze at *
  have HZ := Lib.hid hz
  clear hz
  go_enter Try.func10, Try.ntmps10
  go_wp2_with fail
  refine (MX.out _).mono ?_
  rintro e w1 ⟨rfl, hb1⟩
  have F1 := Lib.hid (below_on (below_on (below_on (below_al w _) (below_al _ _)) (below_al _ _)) hb1)
  have fa1 : w1.cell? ⟨w.heap.size, 1, none⟩ = some (.int .i16 a1) := by
    refine cell_on ?_ hb1
    rw [World.cell?_alloc_past _ _ _ (by simp; try omega), World.cell?_alloc_past _ _ _ (by simp)]; simp
  have fb0 : w1.cell? ⟨w.heap.size + 1, 0, none⟩ = some (.int .i16 b0) := by
    refine cell_on ?_ hb1
    rw [World.cell?_alloc_past _ _ _ (by simp)]; simp
  have fb1 : w1.cell? ⟨w.heap.size + 1, 1, none⟩ = some (.int .i16 b1) := by
    refine cell_on ?_ hb1
    rw [World.cell?_alloc_past _ _ _ (by simp)]; simp
  have sz2 : ((w.alloc (.cells #[.int .i16 a0, .int .i16 a1] 42)).alloc (.cells #[.int .i16 b0, .int .i16 b1] 42)).heap.size = w.heap.size + 1 + 1 := by simp
  have fc0 : w1.cell? ⟨w.heap.size + 1 + 1, 0, none⟩ = some (.int .i16 c0) := by
    refine cell_on ?_ hb1
    rw [← sz2]; exact (cell_new2 _).1
  have fc1 : w1.cell? ⟨w.heap.size + 1 + 1, 1, none⟩ = some (.int .i16 c1) := by
    refine cell_on ?_ hb1
    rw [← sz2]; exact (cell_new2 _).2
  clear sz2
  have ha := cell_lt fa1
  have hb := cell_lt fb1
  have hc := cell_lt fc1
  clear hb1
  go_wp2_with fail
  refine (MY.out _).mono ?_
  rintro e w2 ⟨rfl, hb2⟩
  have F2 := Lib.hid (below_on (below_on F1.out (below_al _ _)) hb2)
  have ga1 := cell_on (cell_al fa1 _) hb2
  have gb1 := cell_on (cell_al fb1 _) hb2
  have gc0 := cell_on (cell_al fc0 _) hb2
  have gc1 := cell_on (cell_al fc1 _) hb2
  obtain ⟨p0, p1⟩ := box2 hb2
  clear hb2 fa1 fb0 fb1 fc0 fc1 ha hb hc
  have ha := cell_lt ga1
  have hb := cell_lt gb1
  have hc := cell_lt gc1
  have hp := cell_lt p0
  go_wp2_with fail
  refine (MZ.out _).mono ?_
  rintro e w3 ⟨rfl, hb3⟩
  have F3 := Lib.hid (below_on (below_on F2.out (below_al _ _)) hb3)
  have fa1 := cell_on (cell_al ga1 _) hb3
  have fb1 := cell_on (cell_al gb1 _) hb3
  have fc1 := cell_on (cell_al gc1 _) hb3
  have r0 := cell_on (cell_al p0 _) hb3
  have r1 := cell_on (cell_al p1 _) hb3
  obtain ⟨s0, s1⟩ := box2 hb3
  clear hb3 ga1 gb1 gc0 gc1 p0 p1 ha hb hc hp
  have ha := cell_lt fa1
  have hb := cell_lt fb1
  have hc := cell_lt fc1
  have hr := cell_lt r0
  have hs := cell_lt s0
  by_cases za : a1 = 0
  · subst za
    clear HZ
    go_wp2_with fail
    refine (awake01 _).mono ?_
    rintro e w4 ⟨rfl, hb4⟩
    have F4 := Lib.hid (below_on (below_on F3.out (below_al _ _)) hb4)
    clear hb4
    go_wp2
    go_ret
    exact ⟨rfl, F4.out⟩
  · have t1 : (a1 == 0) = false := by simpa using za
    by_cases zb : b1 = 0
    · subst zb
      clear HZ
      go_wp2_with fail
      refine (awake01 _).mono ?_
      rintro e w4 ⟨rfl, hb4⟩
      have F4 := Lib.hid (below_on (below_on F3.out (below_al _ _)) hb4)
      clear hb4
      go_wp2
      go_ret
      exact ⟨rfl, F4.out⟩
    · have t2 : (b1 == 0) = false := by simpa using zb
      obtain rfl : c1 = 0 := by rcases HZ.out with h | h | h; exact absurd h za; exact absurd h zb; exact h
      clear HZ
      go_wp2_with fail
      refine (awake01 _).mono ?_
      rintro e w4 ⟨rfl, hb4⟩
      have F4 := Lib.hid (below_on (below_on F3.out (below_al _ _)) hb4)
      clear hb4
      go_wp2
      go_ret
      exact ⟨rfl, F4.out⟩
theorem wf16 {n : Int} (h : (Lit.int .i16 n).wf = true) : -32768 ≤ n ∧ n ≤ 32767 := by
  simp only [Lit.wf, Bool.and_eq_true, decide_eq_true_eq] at h
  have e1 : IntKind.i16.min = -32768 := by decide
  have e2 : IntKind.i16.max = 32767 := by decide
  rw [e1, e2] at h; exact h
theorem orders_wf (a0 a1 b0 b1 c0 c1 : Int) (w : World) (ha0 : (Lit.int .i16 a0).wf = true) (ha1 : (Lit.int .i16 a1).wf = true) (hb0 : (Lit.int .i16 b0).wf = true) (hb1 : (Lit.int .i16 b1).wf = true) (hc0 : (Lit.int .i16 c0).wf = true) (hc1 : (Lit.int .i16 c1).wf = true) :
    Calls Try.prog 10 #[.agg #[.int .i16 a0, .int .i16 a1], .agg #[.int .i16 b0, .int .i16 b1], .agg #[.int .i16 c0, .int .i16 c1]] w fun e w' => e = .returned (.bool true) ∧ Below w.heap.size w w' := by
  by_cases h : a1 = 0 ∨ b1 = 0 ∨ c1 = 0
  · exact orders_zero a0 a1 b0 b1 c0 c1 w (wf16 ha0).1 (wf16 ha0).2 (wf16 ha1).1 (wf16 ha1).2 (wf16 hb0).1 (wf16 hb0).2 (wf16 hb1).1 (wf16 hb1).2 (wf16 hc0).1 (wf16 hc0).2 (wf16 hc1).1 (wf16 hc1).2 h
  · exact orders_ok a0 a1 b0 b1 c0 c1 w (wf16 ha0).1 (wf16 ha0).2 (wf16 ha1).1 (wf16 ha1).2 (wf16 hb0).1 (wf16 hb0).2 (wf16 hb1).1 (wf16 hb1).2 (wf16 hc0).1 (wf16 hc0).2 (wf16 hc1).1 (wf16 hc1).2 (fun e => h (.inl e)) (fun e => h (.inr (.inl e))) (fun e => h (.inr (.inr e)))
end Go.Proofs.Ytffmlpenohpjlaa
