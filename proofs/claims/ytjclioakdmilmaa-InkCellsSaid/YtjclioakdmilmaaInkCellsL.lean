/- InkCells: the walk. -/
import Derived.Test.YtjclioakdmilmaaInkT
import Derived.Test.YtjclioakdmilmaaFreeN
namespace Go.Proofs.Ytjclioakdmilmaa
open Go.RowKit
open Num Ink
set_option linter.unusedVariables false
/-- what the operations of the two calls yield -/
def RS (pv qv : Value) (C D : List (Int × Int)) (m : Nat) : Nat → Value → World → Prop
  | 0 => fun v _ => v = pv
  | 1 => fun v _ => v = qv
  | 2 => fun v w => ∃ a c, v = .slice a m c ∧ Pts w w.heap.size a C
  | 3 => fun v _ => v = qv
  | 4 => fun v _ => v = pv
  | 5 => fun v w => ∃ a c, v = .slice a m c ∧ Pts w w.heap.size a D
  | _ => fun _ _ => True
theorem RS.stab (pv qv : Value) (C D : List (Int × Int)) (m : Nat) (j : Nat) (v : Value) (w w' : World) (h : RS pv qv C D m j v w) (hb : Below w.heap.size w w') : RS pv qv C D m j v w' := by
  match j, h with
  | 0, h => exact h
  | 1, h => exact h
  | 2, ⟨a, c, h1, h2⟩ => exact ⟨a, c, h1, h2.later hb⟩
  | 3, h => exact h
  | 4, h => exact h
  | 5, ⟨a, c, h1, h2⟩ => exact ⟨a, c, h1, h2.later hb⟩
  | n + 6, h => trivial
theorem if2 {α : Type} {p q : Prop} [Decidable p] [Decidable q] (h : ¬ (p ∧ q)) (A B : α) : (if p then if q then A else B else B) = B := by
  split
  · rename_i hp
    rw [if_neg (fun hq => h ⟨hp, hq⟩)]
  · rfl
theorem Segs.step' {ax ay bx by_ vx vy : Int} {C1 C2 C3 : List (Int × Int)} {m : Nat} (hS : Segs ax ay bx by_ vx vy C1 C2 C3 m) (k : Nat) (h0 : 0 < k) (h : k < C1.length) :
    (-1 ≤ C1[k].1 - (C1[k - 1]'(by omega)).1 ∧ C1[k].1 - (C1[k - 1]'(by omega)).1 ≤ 1) ∧ (-1 ≤ C1[k].2 - (C1[k - 1]'(by omega)).2 ∧ C1[k].2 - (C1[k - 1]'(by omega)).2 ≤ 1) ∧ (C1[k].1 ≠ (C1[k - 1]'(by omega)).1 ∨ C1[k].2 ≠ (C1[k - 1]'(by omega)).2) := by
  obtain ⟨j, rfl⟩ : ∃ j, k = j + 1 := ⟨k - 1, by omega⟩
  exact hS.step j (by omega) h
set_option maxRecDepth 100000 in
set_option maxHeartbeats 16000000 in
theorem inkcells_law (ax ay bx by_ vx vy : Int) (w : World) (i1 : I64 ax) (i2 : I64 ay) (i3 : I64 bx) (i4 : I64 by_) (i5 : I64 vx) (i6 : I64 vy) :
    Calls Try.prog 8 #[.agg #[.int .i64 ax, .int .i64 ay], .agg #[.int .i64 bx, .int .i64 by_], .agg #[.int .i64 vx, .int .i64 vy]] w fun e u => e = .returned (.bool true) ∧ Below w.heap.size w u := by
  have J1 := Lib.hid (fun h => absW_le i1 h)
  have J2 := Lib.hid (fun h => absW_le i2 h)
  have J3 := Lib.hid (fun h => absW_le i3 h)
  have J4 := Lib.hid (fun h => absW_le i4 h)
  have J5 := Lib.hid (fun h => absW_le i5 h)
  have J6 := Lib.hid (fun h => absW_le i6 h)
  clear i1 i2 i3 i4 i5 i6
  have b1 := below_al w (.cells #[.int .i64 ax, .int .i64 ay] 29)
  have k1 := Bx.new w ax ay 29
  have s1 : (w.alloc (.cells #[.int .i64 ax, .int .i64 ay] 29)).heap.size = w.heap.size + 1 := by simp
  go_enter Try.func8, Try.ntmps8
  go_upto_region 1 with fail
  generalize w.alloc (.cells #[.int .i64 ax, .int .i64 ay] 29) = v1 at *
  have b2 := below_al v1 (.cells #[.int .i64 bx, .int .i64 by_] 29)
  have k2 := Bx.new v1 bx by_ 29
  have s2 : (v1.alloc (.cells #[.int .i64 bx, .int .i64 by_] 29)).heap.size = v1.heap.size + 1 := by simp
  generalize v1.alloc (.cells #[.int .i64 bx, .int .i64 by_] 29) = v2 at *
  have b3 := below_al v2 (.cells #[.int .i64 vx, .int .i64 vy] 29)
  have k3 := Bx.new v2 vx vy 29
  rw [s1] at k2
  rw [s2, s1] at k3
  have K1 := Lib.hid ((k1.later b2).later b3)
  have K2 := Lib.hid (k2.later b3)
  have K3 := Lib.hid k3
  have G := Lib.hid (below_on (below_on b1 b2) b3)
  clear b1 b2 b3 s1 s2 k1 k2 k3
  generalize hv3 : v2.alloc (.cells #[.int .i64 vx, .int .i64 vy] 29) = u0 at *
  clear hv3
  generalize hsz : w.heap.size = sz at *
  have HSZ := Lib.hid hsz
  clear hsz
  have GG : Hid (sz < u0.heap.size) := Lib.hid (by have := K1.out.lt; exact this)
  obtain ⟨c0, c1, -⟩ := K1.out
  go_wp2_with fail
  refine (abs_any ax _).mono ?_
  rintro e u1 ⟨rfl, hb⟩
  have K1' := Lib.hid (K1.out.later hb)
  have K2' := Lib.hid (K2.out.later hb)
  have K3' := Lib.hid (K3.out.later hb)
  have G' := Lib.hid (G.out.trans (hb.mono (by have := G.out.size; have := HSZ.out; omega)))
  clear hb K1 K2 K3 G c0 c1
  have K1 := K1'
  have K2 := K2'
  have K3 := K3'
  have G := G'
  clear K1' K2' K3' G'
  generalize hA1 : absW ax = A1 at *
  by_cases t1 : 2000 < A1
  · have d1 : decide (2000 < A1) = true := by simpa using t1
    clear t1
    go_wp2_with fail
    refine (awake53 _).mono ?_
    rintro e u ⟨rfl, hb⟩
    have GZ := Lib.hid (G.out.trans (hb.mono (by have := G.out.size; have := HSZ.out; omega)))
    clear hb
    go_wp2
    go_ret
    exact ⟨rfl, by rw [HSZ.out]; exact GZ.out⟩
  have d1 : decide (2000 < A1) = false := by simpa using t1
  obtain ⟨c0, c1, -⟩ := K1.out
  go_wp2_with fail
  refine (abs_any ay _).mono ?_
  rintro e u2 ⟨rfl, hb⟩
  have K1' := Lib.hid (K1.out.later hb)
  have K2' := Lib.hid (K2.out.later hb)
  have K3' := Lib.hid (K3.out.later hb)
  have G' := Lib.hid (G.out.trans (hb.mono (by have := G.out.size; have := HSZ.out; omega)))
  clear hb K1 K2 K3 G c0 c1
  have K1 := K1'
  have K2 := K2'
  have K3 := K3'
  have G := G'
  clear K1' K2' K3' G'
  generalize hA2 : absW ay = A2 at *
  by_cases t2 : 2000 < A2
  · have d2 : decide (2000 < A2) = true := by simpa using t2
    clear t2
    go_wp2_with fail
    refine (awake53 _).mono ?_
    rintro e u ⟨rfl, hb⟩
    have GZ := Lib.hid (G.out.trans (hb.mono (by have := G.out.size; have := HSZ.out; omega)))
    clear hb
    go_wp2
    go_ret
    exact ⟨rfl, by rw [HSZ.out]; exact GZ.out⟩
  have d2 : decide (2000 < A2) = false := by simpa using t2
  obtain ⟨c0, c1, -⟩ := K2.out
  go_wp2_with fail
  refine (abs_any bx _).mono ?_
  rintro e u3 ⟨rfl, hb⟩
  have K1' := Lib.hid (K1.out.later hb)
  have K2' := Lib.hid (K2.out.later hb)
  have K3' := Lib.hid (K3.out.later hb)
  have G' := Lib.hid (G.out.trans (hb.mono (by have := G.out.size; have := HSZ.out; omega)))
  clear hb K1 K2 K3 G c0 c1
  have K1 := K1'
  have K2 := K2'
  have K3 := K3'
  have G := G'
  clear K1' K2' K3' G'
  generalize hA3 : absW bx = A3 at *
  by_cases t3 : 2000 < A3
  · have d3 : decide (2000 < A3) = true := by simpa using t3
    clear t3
    go_wp2_with fail
    refine (awake53 _).mono ?_
    rintro e u ⟨rfl, hb⟩
    have GZ := Lib.hid (G.out.trans (hb.mono (by have := G.out.size; have := HSZ.out; omega)))
    clear hb
    go_wp2
    go_ret
    exact ⟨rfl, by rw [HSZ.out]; exact GZ.out⟩
  have d3 : decide (2000 < A3) = false := by simpa using t3
  obtain ⟨c0, c1, -⟩ := K2.out
  go_wp2_with fail
  refine (abs_any by_ _).mono ?_
  rintro e u4 ⟨rfl, hb⟩
  have K1' := Lib.hid (K1.out.later hb)
  have K2' := Lib.hid (K2.out.later hb)
  have K3' := Lib.hid (K3.out.later hb)
  have G' := Lib.hid (G.out.trans (hb.mono (by have := G.out.size; have := HSZ.out; omega)))
  clear hb K1 K2 K3 G c0 c1
  have K1 := K1'
  have K2 := K2'
  have K3 := K3'
  have G := G'
  clear K1' K2' K3' G'
  generalize hA4 : absW by_ = A4 at *
  by_cases t4 : 2000 < A4
  · have d4 : decide (2000 < A4) = true := by simpa using t4
    clear t4
    go_wp2_with fail
    refine (awake53 _).mono ?_
    rintro e u ⟨rfl, hb⟩
    have GZ := Lib.hid (G.out.trans (hb.mono (by have := G.out.size; have := HSZ.out; omega)))
    clear hb
    go_wp2
    go_ret
    exact ⟨rfl, by rw [HSZ.out]; exact GZ.out⟩
  have d4 : decide (2000 < A4) = false := by simpa using t4
  obtain ⟨c0, c1, -⟩ := K3.out
  go_wp2_with fail
  refine (abs_any vx _).mono ?_
  rintro e u5 ⟨rfl, hb⟩
  have K1' := Lib.hid (K1.out.later hb)
  have K2' := Lib.hid (K2.out.later hb)
  have K3' := Lib.hid (K3.out.later hb)
  have G' := Lib.hid (G.out.trans (hb.mono (by have := G.out.size; have := HSZ.out; omega)))
  clear hb K1 K2 K3 G c0 c1
  have K1 := K1'
  have K2 := K2'
  have K3 := K3'
  have G := G'
  clear K1' K2' K3' G'
  generalize hA5 : absW vx = A5 at *
  by_cases t5 : 2000 < A5
  · have d5 : decide (2000 < A5) = true := by simpa using t5
    clear t5
    go_wp2_with fail
    refine (awake53 _).mono ?_
    rintro e u ⟨rfl, hb⟩
    have GZ := Lib.hid (G.out.trans (hb.mono (by have := G.out.size; have := HSZ.out; omega)))
    clear hb
    go_wp2
    go_ret
    exact ⟨rfl, by rw [HSZ.out]; exact GZ.out⟩
  have d5 : decide (2000 < A5) = false := by simpa using t5
  obtain ⟨c0, c1, -⟩ := K3.out
  go_wp2_with fail
  refine (abs_any vy _).mono ?_
  rintro e u6 ⟨rfl, hb⟩
  have K1' := Lib.hid (K1.out.later hb)
  have K2' := Lib.hid (K2.out.later hb)
  have K3' := Lib.hid (K3.out.later hb)
  have G' := Lib.hid (G.out.trans (hb.mono (by have := G.out.size; have := HSZ.out; omega)))
  clear hb K1 K2 K3 G c0 c1
  have K1 := K1'
  have K2 := K2'
  have K3 := K3'
  have G := G'
  clear K1' K2' K3' G'
  generalize hA6 : absW vy = A6 at *
  by_cases t6 : 2000 < A6
  · have d6 : decide (2000 < A6) = true := by simpa using t6
    clear t6
    go_wp2_with fail
    refine (awake53 _).mono ?_
    rintro e u ⟨rfl, hb⟩
    have GZ := Lib.hid (G.out.trans (hb.mono (by have := G.out.size; have := HSZ.out; omega)))
    clear hb
    go_wp2
    go_ret
    exact ⟨rfl, by rw [HSZ.out]; exact GZ.out⟩
  have d6 : decide (2000 < A6) = false := by simpa using t6
  obtain ⟨c0, c1, -⟩ := K1.out
  obtain ⟨c2, c3, -⟩ := K2.out
  obtain ⟨c4, c5, -⟩ := K3.out
  by_cases r1 : ax < -2000
  · have g1 : decide (ax < -2000) = true := by simpa using r1
    clear r1
    go_wp2_with fail
    refine (awake53 _).mono ?_
    rintro e u ⟨rfl, hb⟩
    have GZ := Lib.hid (G.out.trans (hb.mono (by have := G.out.size; have := HSZ.out; omega)))
    clear hb
    go_wp2
    go_ret
    exact ⟨rfl, by rw [HSZ.out]; exact GZ.out⟩
  have g1 : decide (ax < -2000) = false := by simpa using r1
  by_cases r2 : ay < -2000
  · have g2 : decide (ay < -2000) = true := by simpa using r2
    clear r2
    go_wp2_with fail
    refine (awake53 _).mono ?_
    rintro e u ⟨rfl, hb⟩
    have GZ := Lib.hid (G.out.trans (hb.mono (by have := G.out.size; have := HSZ.out; omega)))
    clear hb
    go_wp2
    go_ret
    exact ⟨rfl, by rw [HSZ.out]; exact GZ.out⟩
  have g2 : decide (ay < -2000) = false := by simpa using r2
  by_cases r3 : bx < -2000
  · have g3 : decide (bx < -2000) = true := by simpa using r3
    clear r3
    go_wp2_with fail
    refine (awake53 _).mono ?_
    rintro e u ⟨rfl, hb⟩
    have GZ := Lib.hid (G.out.trans (hb.mono (by have := G.out.size; have := HSZ.out; omega)))
    clear hb
    go_wp2
    go_ret
    exact ⟨rfl, by rw [HSZ.out]; exact GZ.out⟩
  have g3 : decide (bx < -2000) = false := by simpa using r3
  by_cases r4 : by_ < -2000
  · have g4 : decide (by_ < -2000) = true := by simpa using r4
    clear r4
    go_wp2_with fail
    refine (awake53 _).mono ?_
    rintro e u ⟨rfl, hb⟩
    have GZ := Lib.hid (G.out.trans (hb.mono (by have := G.out.size; have := HSZ.out; omega)))
    clear hb
    go_wp2
    go_ret
    exact ⟨rfl, by rw [HSZ.out]; exact GZ.out⟩
  have g4 : decide (by_ < -2000) = false := by simpa using r4
  by_cases r5 : vx < -2000
  · have g5 : decide (vx < -2000) = true := by simpa using r5
    clear r5
    go_wp2_with fail
    refine (awake53 _).mono ?_
    rintro e u ⟨rfl, hb⟩
    have GZ := Lib.hid (G.out.trans (hb.mono (by have := G.out.size; have := HSZ.out; omega)))
    clear hb
    go_wp2
    go_ret
    exact ⟨rfl, by rw [HSZ.out]; exact GZ.out⟩
  have g5 : decide (vx < -2000) = false := by simpa using r5
  by_cases r6 : vy < -2000
  · have g6 : decide (vy < -2000) = true := by simpa using r6
    clear r6
    go_wp2_with fail
    refine (awake53 _).mono ?_
    rintro e u ⟨rfl, hb⟩
    have GZ := Lib.hid (G.out.trans (hb.mono (by have := G.out.size; have := HSZ.out; omega)))
    clear hb
    go_wp2
    go_ret
    exact ⟨rfl, by rw [HSZ.out]; exact GZ.out⟩
  have g6 : decide (vy < -2000) = false := by simpa using r6
  have z1 : -2000 ≤ ax ∧ ax ≤ 2000 := by
    have h : A1 ≤ 2000 := by omega
    rcases J1.out h with h | h <;> omega
  have z2 : -2000 ≤ ay ∧ ay ≤ 2000 := by
    have h : A2 ≤ 2000 := by omega
    rcases J2.out h with h | h <;> omega
  have z3 : -2000 ≤ bx ∧ bx ≤ 2000 := by
    have h : A3 ≤ 2000 := by omega
    rcases J3.out h with h | h <;> omega
  have z4 : -2000 ≤ by_ ∧ by_ ≤ 2000 := by
    have h : A4 ≤ 2000 := by omega
    rcases J4.out h with h | h <;> omega
  have z5 : -2000 ≤ vx ∧ vx ≤ 2000 := by
    have h : A5 ≤ 2000 := by omega
    rcases J5.out h with h | h <;> omega
  have z6 : -2000 ≤ vy ∧ vy ≤ 2000 := by
    have h : A6 ≤ 2000 := by omega
    rcases J6.out h with h | h <;> omega
  go_upto_region 3 with fail
  clear c0 c1 c2 c3 c4 c5 d1 d2 d3 d4 d5 d6 g1 g2 g3 g4 g5 g6 t1 t2 t3 t4 t5 t6 r1 r2 r3 r4 r5 r6 J1 J2 J3 J4 J5 J6 hA1 hA2 hA3 hA4 hA5 hA6
  obtain ⟨m, hS⟩ := segs_of z1 z2 z3 z4 z5 z6
  generalize hC1 : cels ax ay bx by_ = C1 at *
  generalize hC2 : cels bx by_ ax ay = C2 at *
  generalize hC3 : cels (ax + vx) (ay + vy) (bx + vx) (by_ + vy) = C3 at *
  have HC1 := Lib.hid hC1
  have HC2 := Lib.hid hC2
  have HC3 := Lib.hid hC3
  have HS := Lib.hid hS
  have ML := hS.le
  have MP := hS.pos
  clear hC1 hC2 hC3 hS
  refine region_freeN (P := Try.prog) [] 6 (RS (.agg #[.int .i64 ax, .int .i64 ay]) (.agg #[.int .i64 bx, .int .i64 by_]) C1 C2 m) (RS.stab _ _ _ _ _) (by kernel_rfl) (by kernel_rfl) (fun _ _ _ _ _ h => h) ?hmk ?hfin
  case hmk =>
    intro i hi oo ho U v hv hk
    obtain rfl | rfl | rfl | rfl | rfl | rfl : i = 0 ∨ i = 1 ∨ i = 2 ∨ i = 3 ∨ i = 4 ∨ i = 5 := by omega
    · obtain rfl := Option.some.inj ho
      clear hk
      obtain ⟨h0, h1, -⟩ := K1.out.later hv
      simp only [List.take_zero, mks, putsL]
      refine makes_val (x := .agg #[.int .i64 ax, .int .i64 ay]) (u := v) ?_ (Below.refl _ _) rfl
      simp [execOp, go_sem, h0, h1]
    · obtain rfl := Option.some.inj ho
      clear hk
      obtain ⟨h0, h1, -⟩ := K2.out.later hv
      simp only [List.take_succ_cons, List.take_zero, mks, putsL]
      refine makes_val (x := .agg #[.int .i64 bx, .int .i64 by_]) (u := v) ?_ (Below.refl _ _) rfl
      simp [execOp, go_sem, h0, h1]
    · obtain rfl := Option.some.inj ho
      have e0 : U 0 = _ := hk 0 (by omega) (by kernel_rfl)
      have e1 : U 1 = _ := hk 1 (by omega) (by kernel_rfl)
      clear hk
      simp only [List.take_succ_cons, List.take_zero, mks, putsL, e0, e1]
      refine makes_of (f := 12) (args := #[.agg #[.int .i64 ax, .int .i64 ay], .agg #[.int .i64 bx, .int .i64 by_]]) ?_ (Cells_any ax ay bx by_ v) (fun e u h => ?_)
      · simp [go_sem]
      · obtain ⟨a', c', h1, ⟨h2, -⟩, h3⟩ := h
        rw [HC1.out] at h1 h2
        rw [HS.out.l1] at h1
        exact ⟨_, h1, h3, a', c', rfl, h2⟩
    · obtain rfl := Option.some.inj ho
      clear hk
      obtain ⟨h0, h1, -⟩ := K2.out.later hv
      simp only [List.take_succ_cons, List.take_zero, mks, putsL]
      refine makes_val (x := .agg #[.int .i64 bx, .int .i64 by_]) (u := v) ?_ (Below.refl _ _) rfl
      simp [execOp, go_sem, h0, h1]
    · obtain rfl := Option.some.inj ho
      clear hk
      obtain ⟨h0, h1, -⟩ := K1.out.later hv
      simp only [List.take_succ_cons, List.take_zero, mks, putsL]
      refine makes_val (x := .agg #[.int .i64 ax, .int .i64 ay]) (u := v) ?_ (Below.refl _ _) rfl
      simp [execOp, go_sem, h0, h1]
    · obtain rfl := Option.some.inj ho
      have e3 : U 3 = _ := hk 3 (by omega) (by kernel_rfl)
      have e4 : U 4 = _ := hk 4 (by omega) (by kernel_rfl)
      clear hk
      simp only [List.take_succ_cons, List.take_zero, mks, putsL, e3, e4]
      refine makes_of (f := 12) (args := #[.agg #[.int .i64 bx, .int .i64 by_], .agg #[.int .i64 ax, .int .i64 ay]]) ?_ (Cells_any bx by_ ax ay v) (fun e u h => ?_)
      · simp [go_sem]
      · obtain ⟨a', c', h1, ⟨h2, -⟩, h3⟩ := h
        rw [HC2.out] at h1 h2
        rw [HS.out.l2] at h1
        exact ⟨_, h1, h3, a', c', rfl, h2⟩
  case hfin =>
    intro U u hb hR
    obtain ⟨a1, q1, e2, p1⟩ := hR 2 (by omega)
    obtain ⟨a2, q2, e5, p2⟩ := hR 5 (by omega)
    have P1 := Lib.hid p1
    have P2 := Lib.hid p2
    have K1' := Lib.hid (K1.out.later hb)
    have K2' := Lib.hid (K2.out.later hb)
    have K3' := Lib.hid (K3.out.later hb)
    have G' := Lib.hid (G.out.trans (hb.mono (by have := G.out.size; have := HSZ.out; omega)))
    clear hR hb p1 p2 K1 K2 K3 G
    simp only [List.take_succ_cons, List.take_zero, List.drop_succ_cons, List.drop_zero, mks, putsL, e2, e5]
    clear e2 e5
    generalize U 0 = w0
    generalize U 1 = w1
    generalize U 3 = w3
    generalize U 4 = w4
    go_upto_region 4 with fail
    obtain ⟨c0, c1, -⟩ := K1'.out
    obtain ⟨c2, c3, -⟩ := K2'.out
    obtain ⟨c4, c5, -⟩ := K3'.out
    have e1 : wrap64 (ax + vx) = ax + vx := w64i _ (by omega) (by omega)
    have e2 : wrap64 (ay + vy) = ay + vy := w64i _ (by omega) (by omega)
    have e3 : wrap64 (bx + vx) = bx + vx := w64i _ (by omega) (by omega)
    have e4 : wrap64 (by_ + vy) = by_ + vy := w64i _ (by omega) (by omega)
    have PT1 := Lib.hid (fun v => pt_any (ax + vx) (ay + vy) v)
    have PT2 := Lib.hid (fun v => pt_any (bx + vx) (by_ + vy) v)
    refine region_freeL (P := Try.prog) [] 22 22 240 29 (.cells #[.int .i64 0, .int .i64 0] 29) (by kernel_rfl) (by decide) (by kernel_rfl) (fun _ _ _ _ _ h => h) ?_ (by kernel_rfl) (by kernel_rfl) alloc_pt ?_
    · rfl
    apply Exists.intro
    refine ⟨?hqt, ?hft⟩
    case hqt =>
      intro X' hne
      haveI := hne
      simp only [List.take_succ_cons, List.take_zero]
      have L0 := fun m' : LaterX u X' => m'.cell c0
      have L1 := fun m' : LaterX u X' => m'.cell c1
      have L2 := fun m' : LaterX u X' => m'.cell c2
      have L3 := fun m' : LaterX u X' => m'.cell c3
      have L4 := fun m' : LaterX u X' => m'.cell c4
      have L5 := fun m' : LaterX u X' => m'.cell c5
      iterate 10 (go_big_quiet_want; go_big_quiet_op; go_big_quiet_on)
      (go_big_quiet_want; go_big_quiet_op; go_big_quiet_call (exact laterX_of (PT1.out _)))
      iterate 10 (go_big_quiet_want; go_big_quiet_op; go_big_quiet_on)
      (go_big_quiet_want; go_big_quiet_op; go_big_quiet_call (exact laterX_of (PT2.out _)))
      exact wpQuiet_nil rfl
    intro G0 w8 hb _ _
    simp only [List.take_succ_cons, List.take_zero, List.drop_succ_cons, List.drop_zero, ptrs, putsL]
    have P1' := Lib.hid (P1.out.later hb)
    have P2' := Lib.hid (P2.out.later hb)
    have K1 := Lib.hid (K1'.out.later hb)
    have K2 := Lib.hid (K2'.out.later hb)
    have K3 := Lib.hid (K3'.out.later hb)
    have G := Lib.hid (G'.out.trans (hb.mono (by have := G'.out.size; have := HSZ.out; omega)))
    clear hb P1 P2 K1' K2' K3' G' c0 c1 c2 c3 c4 c5 e1 e2 e3 e4 PT1 PT2
    have CC := Lib.hid (fun v => Cells_any (ax + vx) (ay + vy) (bx + vx) (by_ + vy) v)
    go_wp2_with fail
    refine (CC.out _).mono ?_
    rintro e w9 ⟨a3, q3, rfl, ⟨hp3, -⟩, hb⟩
    rw [HC3.out] at hp3
    rw [HC3.out, HS.out.l3]
    have P3 := Lib.hid hp3
    have P1 := Lib.hid (P1'.out.later hb)
    have P2 := Lib.hid (P2'.out.later hb)
    have K1' := Lib.hid (K1.out.later hb)
    have K2' := Lib.hid (K2.out.later hb)
    have K3' := Lib.hid (K3.out.later hb)
    have G' := Lib.hid (G.out.trans (hb.mono (by have := G.out.size; have := HSZ.out; omega)))
    clear hb hp3 P1' P2' K1 K2 K3 G CC
    go_upto_region 5 with fail
    have f1 : wrap64 (bx - ax) = bx - ax := w64i _ (by omega) (by omega)
    have f2 : wrap64 (by_ - ay) = by_ - ay := w64i _ (by omega) (by omega)
    have AB1 := Lib.hid (fun v => abs_any (bx - ax) v)
    have AB2 := Lib.hid (fun v => abs_any (by_ - ay) v)
    have hX : absW (bx - ax) = max (bx - ax) (-(bx - ax)) := absW_small (by omega)
    have hY : absW (by_ - ay) = max (by_ - ay) (-(by_ - ay)) := absW_small (by omega)
    have hS : max (absW (bx - ax)) (absW (by_ - ay)) + 1 = (m : Int) := by rw [HS.out.len, hX, hY]; rfl
    generalize absW (bx - ax) = AX at *
    generalize absW (by_ - ay) = AY at *
    have MX := fun v => run_max AX AY v
    have f3 : wrap64 (max AX AY + 1) = (m : Int) := by rw [hS]; exact w64i _ (by omega) (by omega)
    generalize max AX AY = S at *
    clear hX hY hS
    obtain ⟨c0, c1, -⟩ := K1'.out
    obtain ⟨c2, c3, -⟩ := K2'.out
    have L0 := fun m' : Later w9 => m'.cell c0
    have L1 := fun m' : Later w9 => m'.cell c1
    have L2 := fun m' : Later w9 => m'.cell c2
    have L3 := fun m' : Later w9 => m'.cell c3
    refine region_later (by kernel_rfl) (by kernel_rfl) ?_
    iterate 5 (go_big_quiet_want; go_big_quiet_op; go_big_quiet_on)
    (go_big_quiet_want; go_big_quiet_op; go_big_quiet_call (exact later_of (AB1.out _)))
    iterate 5 (go_big_quiet_want; go_big_quiet_op; go_big_quiet_on)
    (go_big_quiet_want; go_big_quiet_op; go_big_quiet_call (exact later_of (AB2.out _)))
    iterate 3 (go_big_quiet_want; go_big_quiet_op; go_big_quiet_on)
    refine wpQuiet_nil ?_
    refine later_end ?_
    rw [f3]
    intro mm
    have P1' := Lib.hid (P1.out.later mm.below)
    have P2' := Lib.hid (P2.out.later mm.below)
    have P3' := Lib.hid (P3.out.later mm.below)
    have K1 := Lib.hid (K1'.out.later mm.below)
    have K2 := Lib.hid (K2'.out.later mm.below)
    have K3 := Lib.hid (K3'.out.later mm.below)
    have G := Lib.hid (G'.out.trans (mm.below.mono (by have := G'.out.size; have := HSZ.out; omega)))
    clear L0 L1 L2 L3 c0 c1 c2 c3 f1 f2 f3 MX AB1 AB2 P1 P2 P3 K1' K2' K3' G'
    generalize mm.wd = w10 at *
    clear mm
    go_upto_region 6 with fail
    obtain ⟨bk1, of1, rfl, -, g1⟩ := P1'.out (by rw [HS.out.l1]; omega)
    have y0 : w10.cell? ⟨bk1, of1, none⟩ = some (.int .i64 ax) := by have := (g1 0 (by rw [HS.out.l1]; omega)).1; rw [HS.out.first] at this; simpa using this
    have y1 : w10.cell? ⟨bk1, of1 + 1, none⟩ = some (.int .i64 ay) := by have := (g1 0 (by rw [HS.out.l1]; omega)).2; rw [HS.out.first] at this; simpa using this
    have y2 : w10.cell? ⟨bk1, of1 + (m - 1) * 2, none⟩ = some (.int .i64 bx) := by have := (g1 (m - 1) (by rw [HS.out.l1]; omega)).1; rw [HS.out.last] at this; simpa using this
    have y3 : w10.cell? ⟨bk1, of1 + (m - 1) * 2 + 1, none⟩ = some (.int .i64 by_) := by have := (g1 (m - 1) (by rw [HS.out.l1]; omega)).2; rw [HS.out.last] at this; exact this
    clear g1
    have f1 : wrap64 ((m : Int) - 1) = ((m - 1 : Nat) : Int) := by rw [w64i _ (by omega) (by omega)]; omega
    have f2 : (0 : Int) < (m : Int) := by omega
    have f3 : (((m - 1 : Nat) : Int)) < (m : Int) := by omega
    have f4 : (0 : Int) ≤ ((m - 1 : Nat) : Int) := by omega
    have f5 : 0 < m := MP
    have f6 : m - 1 < m := by omega
    obtain ⟨c0, c1, -⟩ := K1.out
    obtain ⟨c2, c3, -⟩ := K2.out
    have L0 := fun m' : Later w10 => m'.cell c0
    have L1 := fun m' : Later w10 => m'.cell c1
    have L2 := fun m' : Later w10 => m'.cell c2
    have L3 := fun m' : Later w10 => m'.cell c3
    have L4 := fun m' : Later w10 => m'.cell y0
    have L5 := fun m' : Later w10 => m'.cell y1
    have L6 := fun m' : Later w10 => m'.cell y2
    have L7 := fun m' : Later w10 => m'.cell y3
    refine region_later (by kernel_rfl) (by kernel_rfl) ?_
    iterate 32 (go_big_quiet_want; go_big_quiet_op; go_big_quiet_on)
    refine wpQuiet_nil ?_
    refine later_end ?_
    intro mm
    have P1 := Lib.hid (P1'.out.later mm.below)
    have P2 := Lib.hid (P2'.out.later mm.below)
    have P3 := Lib.hid (P3'.out.later mm.below)
    have K3' := Lib.hid (K3.out.later mm.below)
    have G' := Lib.hid (G.out.trans (mm.below.mono (by have := G.out.size; have := HSZ.out; omega)))
    clear L0 L1 L2 L3 L4 L5 L6 L7 c0 c1 c2 c3 y0 y1 y2 y3 f1 f2 f3 f4 f5 f6 P1' P2' P3' K1 K2 K3 G
    generalize mm.wd = w11 at *
    clear mm
    go_upto_region 8 with fail
    go_wp2_with fail
    go_loopw [11] (fun i wr => ∃ k : Nat, k ≤ m ∧ i = .int .i64 k ∧ Hid (Below w11.heap.size w11 wr)) (fun i _ => m - (intOf i).toNat)
    case atStart => exact ⟨0, by omega, rfl, Lib.hid (Below.refl _ _)⟩
    case round =>
      obtain ⟨k, hk, rfl, HW⟩ := hrel
      by_cases hlt : k < m
      · obtain ⟨b1', o1', e', -, g1⟩ := (P1.out.later HW.out) (by rw [HS.out.l1]; omega)
        injection e' with e'
        injection e' with e1 e2
        subst e1 e2
        obtain ⟨b2, o2, rfl, -, g2⟩ := (P2.out.later HW.out) (by rw [HS.out.l2]; omega)
        obtain ⟨b3, o3, rfl, -, g3⟩ := (P3.out.later HW.out) (by rw [HS.out.l3]; omega)
        have hk1 : k < C1.length := by rw [HS.out.l1]; exact hlt
        have hk2 : m - 1 - k < C2.length := by rw [HS.out.l2]; omega
        have hk3 : k < C3.length := by rw [HS.out.l3]; exact hlt
        have y0 : wr.cell? ⟨b2, o2 + (m - 1 - k) * 2, none⟩ = some (.int .i64 C1[k].1) := by rw [← HS.out.back k hk1 hk2]; exact (g2 _ hk2).1
        have y1 : wr.cell? ⟨b2, o2 + (m - 1 - k) * 2 + 1, none⟩ = some (.int .i64 C1[k].2) := by rw [← HS.out.back k hk1 hk2]; exact (g2 _ hk2).2
        have y2 : wr.cell? ⟨bk1, of1 + k * 2, none⟩ = some (.int .i64 C1[k].1) := (g1 k hk1).1
        have y3 : wr.cell? ⟨bk1, of1 + k * 2 + 1, none⟩ = some (.int .i64 C1[k].2) := (g1 k hk1).2
        have y4 : wr.cell? ⟨b3, o3 + k * 2, none⟩ = some (.int .i64 (C1[k].1 + vx)) := by have := (g3 k hk3).1; rw [HS.out.moved k hk1 hk3] at this; exact this
        have y5 : wr.cell? ⟨b3, o3 + k * 2 + 1, none⟩ = some (.int .i64 (C1[k].2 + vy)) := by have := (g3 k hk3).2; rw [HS.out.moved k hk1 hk3] at this; exact this
        have z : Hid (0 < k → ∃ x y : Int, wr.cell? ⟨bk1, of1 + (k - 1) * 2, none⟩ = some (.int .i64 x) ∧ wr.cell? ⟨bk1, of1 + (k - 1) * 2 + 1, none⟩ = some (.int .i64 y) ∧ (-1 ≤ C1[k].1 - x ∧ C1[k].1 - x ≤ 1) ∧ (-1 ≤ C1[k].2 - y ∧ C1[k].2 - y ≤ 1) ∧ (C1[k].1 ≠ x ∨ C1[k].2 ≠ y)) := Lib.hid (fun h0 => by
          have hj : k - 1 < C1.length := by omega
          exact ⟨C1[k - 1].1, C1[k - 1].2, (g1 (k - 1) hj).1, (g1 (k - 1) hj).2, HS.out.step' k h0 hk1⟩)
        have bd := HS.out.bd k hk1
        generalize C1[k].1 = X at *
        generalize C1[k].2 = Y at *
        clear g1 g2 g3 hk1 hk2 hk3
        have f1 : wrap64 ((m : Int) - 1) = ((m - 1 : Nat) : Int) := by rw [w64i _ (by omega) (by omega)]; omega
        have f2 : wrap64 (((m - 1 : Nat) : Int) - (k : Int)) = ((m - 1 - k : Nat) : Int) := by rw [w64i _ (by omega) (by omega)]; omega
        have f3 : ((m - 1 - k : Nat) : Int) < (m : Int) := by omega
        have f4 : (0 : Int) ≤ ((m - 1 - k : Nat) : Int) := by omega
        have f5 : (0 : Int) ≤ (k : Int) := by omega
        have f6 : (k : Int) < (m : Int) := by omega
        have f7 : m - 1 - k < m := by omega
        have f8 : wrap64 (X + vx) = X + vx := w64i _ (by omega) (by omega)
        have f9 : wrap64 (Y + vy) = Y + vy := w64i _ (by omega) (by omega)
        have PT := Lib.hid (fun v => pt_any (X + vx) (Y + vy) v)
        have K3 := Lib.hid (K3'.out.later HW.out)
        obtain ⟨c4, c5, -⟩ := K3.out
        go_upto_region 11 with fail
        have L0 := fun m' : Later wr => m'.cell y0
        have L1 := fun m' : Later wr => m'.cell y1
        have L2 := fun m' : Later wr => m'.cell y2
        have L3 := fun m' : Later wr => m'.cell y3
        have L4 := fun m' : Later wr => m'.cell y4
        have L5 := fun m' : Later wr => m'.cell y5
        have L6 := fun m' : Later wr => m'.cell c4
        have L7 := fun m' : Later wr => m'.cell c5
        refine region_later (by kernel_rfl) (by kernel_rfl) ?_
        iterate 33 (go_big_quiet_want; go_big_quiet_op; go_big_quiet_on)
        (go_big_quiet_want; go_big_quiet_op; go_big_quiet_call (exact later_of (PT.out _)))
        iterate 2 (go_big_quiet_want; go_big_quiet_op; go_big_quiet_on)
        refine wpQuiet_nil ?_
        refine later_end ?_
        intro mm
        have HW2 := Lib.hid (below_on HW.out mm.below)
        have L2 := L2 mm
        have L3 := L3 mm
        have z2 : Hid (0 < k → ∃ x y : Int, mm.wd.cell? ⟨bk1, of1 + (k - 1) * 2, none⟩ = some (.int .i64 x) ∧ mm.wd.cell? ⟨bk1, of1 + (k - 1) * 2 + 1, none⟩ = some (.int .i64 y) ∧ (-1 ≤ X - x ∧ X - x ≤ 1) ∧ (-1 ≤ Y - y ∧ Y - y ≤ 1) ∧ (X ≠ x ∨ Y ≠ y)) := Lib.hid (fun h0 => by
          obtain ⟨x, y, h1, h2, h3⟩ := z.out h0
          exact ⟨x, y, mm.cell h1, mm.cell h2, h3⟩)
        clear L0 L1 L4 L5 L6 L7 y0 y1 y2 y3 y4 y5 c4 c5 f1 f2 f3 f4 f7 f8 f9 PT K3 z HW
        have y2 := L2
        have y3 := L3
        clear L2 L3
        generalize mm.wd = w12 at *
        clear mm
        by_cases hk0 : 0 < k
        · obtain ⟨x, y, y0, y1, h3, h4, h5⟩ := z2.out hk0
          clear z2
          have d0 : decide (0 < (k : Int)) = true := by simp; omega
          have f1 : wrap64 ((k : Int) - 1) = ((k - 1 : Nat) : Int) := by rw [w64i _ (by omega) (by omega)]; omega
          have f3 : ((k - 1 : Nat) : Int) < (m : Int) := by omega
          have f4 : (0 : Int) ≤ ((k - 1 : Nat) : Int) := by omega
          have f7 : k - 1 < m := by omega
          have f8 : wrap64 (X - x) = X - x := w64i _ (by omega) (by omega)
          have f9 : wrap64 (Y - y) = Y - y := w64i _ (by omega) (by omega)
          have AB1 := Lib.hid (fun v => abs_any (X - x) v)
          have AB2 := Lib.hid (fun v => abs_any (Y - y) v)
          have d1 : decide (1 < absW (X - x)) = false := by rw [absW_small (by omega)]; simp; omega
          have d2 : decide (1 < absW (Y - y)) = false := by rw [absW_small (by omega)]; simp; omega
          generalize absW (X - x) = AX at *
          generalize absW (Y - y) = AY at *
          have d3 : ¬ (X = x ∧ Y = y) := by omega
          go_upto_region 13 with fail
          have L0 := fun m' : Later w12 => m'.cell y0
          have L1 := fun m' : Later w12 => m'.cell y1
          have L2 := fun m' : Later w12 => m'.cell y2
          have L3 := fun m' : Later w12 => m'.cell y3
          refine region_later (by kernel_rfl) (by kernel_rfl) ?_
          iterate 12 (go_big_quiet_want; go_big_quiet_op; go_big_quiet_on)
          go_big_quiet_want
          go_big_quiet_op
          refine ⟨.bool false, fun a => by rw [if2 d3]; exact ⟨rfl, rfl⟩, ?_⟩
          go_big_quiet_on
          iterate 1 (go_big_quiet_want; go_big_quiet_op; go_big_quiet_on)
          iterate 12 (go_big_quiet_want; go_big_quiet_op; go_big_quiet_on)
          (go_big_quiet_want; go_big_quiet_op; go_big_quiet_call (exact later_of (AB1.out _)))
          iterate 15 (go_big_quiet_want; go_big_quiet_op; go_big_quiet_on)
          (go_big_quiet_want; go_big_quiet_op; go_big_quiet_call (exact later_of (AB2.out _)))
          iterate 3 (go_big_quiet_want; go_big_quiet_op; go_big_quiet_on)
          refine wpQuiet_nil ?_
          refine later_end ?_
          intro mm
          have HW3 := Lib.hid (below_on HW2.out mm.below)
          clear L0 L1 L2 L3 y0 y1 y2 y3 f1 f3 f4 f7 f8 f9 AB1 AB2 d0 HW2
          generalize mm.wd = w13 at *
          clear mm
          go_wp2
          go_roundw
          case rel => exact ⟨k + 1, by omega, by go_num, HW3⟩
          case measure => simp [intOf] <;> omega
        · obtain rfl : k = 0 := by omega
          clear z2
          go_upto_region 13 with fail
          have L2 := fun m' : Later w12 => m'.cell y2
          refine region_later (by kernel_rfl) (by kernel_rfl) ?_
          iterate 3 (go_big_quiet_want; go_big_quiet_op; go_big_quiet_on)
          iterate 42 go_big_quiet_skip
          iterate 1 (go_big_quiet_want; go_big_quiet_op; go_big_quiet_on)
          refine wpQuiet_nil ?_
          refine later_end ?_
          intro mm
          have HW3 := Lib.hid (below_on HW2.out mm.below)
          clear L2 y2 y3 HW2
          generalize mm.wd = w13 at *
          clear mm
          go_wp2
          go_roundw
          case rel => exact ⟨1, by omega, by go_num, HW3⟩
          case measure => simp [intOf] <;> omega
      · have G1 := Lib.hid (G'.out.trans (HW.out.mono (by have := G'.out.size; have := HSZ.out; omega)))
        clear P1 P2 P3 K3' G'
        go_wp2_with fail
        refine (awake53 _).mono ?_
        rintro e u ⟨rfl, hb⟩
        have GZ := Lib.hid (G1.out.trans (hb.mono (by have := G1.out.size; have := HSZ.out; omega)))
        clear hb
        go_wp2
        go_ret
        exact ⟨rfl, by rw [HSZ.out]; exact GZ.out⟩
end Go.Proofs.Ytjclioakdmilmaa
