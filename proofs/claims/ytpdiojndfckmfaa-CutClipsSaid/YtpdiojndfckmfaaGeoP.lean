/- The contracts of the reference's first and shared. -/
import Derived.Test.YtpdiojndfckmfaaGeoH
namespace Go.Proofs.Ytpdiojndfckmfaa
open Go.RowKit
open Num Geo
set_option linter.unusedVariables false
set_option maxHeartbeats 1000000 in
theorem rfirst_any (ax ay bx by_ : Int) (w : World) :
    Calls Try.prog 45 #[.agg #[.int .i64 ax, .int .i64 ay], .agg #[.int .i64 bx, .int .i64 by_]] w fun e w' => e = .returned (.bool (bf ax ay bx by_)) ∧ Below w.heap.size w w' := by
  rcases bf_cases ax ay bx by_ with ⟨h, hv, d⟩ | ⟨rfl, d, hv⟩ | ⟨h, d, d', hv⟩
  all_goals
    rw [hv]
    clear hv
    go_enter Try.func45, Try.ntmps45
    go_wp2
    go_ret
    exact ⟨rfl, by go_grown⟩
theorem M4.set0 {w u : World} {ax ay bx by_ cx cy dx dy : Int} (h : M4 w u ax ay bx by_ cx cy dx dy) (x y : Int) :
    M4 w ((u.setCell ⟨w.heap.size, 0, none⟩ (.int .i64 x)).setCell ⟨w.heap.size, 1, none⟩ (.int .i64 y)) x y bx by_ cx cy dx dy := by
  obtain ⟨h0, h1, h2, h3, g⟩ := h
  exact ⟨h0.same x y, (h1.other (by omega) _).other (by omega) _, (h2.other (by omega) _).other (by omega) _, (h3.other (by omega) _).other (by omega) _, (g.setCell (Nat.le_refl _) _).setCell (Nat.le_refl _) _⟩
theorem M4.set1 {w u : World} {ax ay bx by_ cx cy dx dy : Int} (h : M4 w u ax ay bx by_ cx cy dx dy) (x y : Int) :
    M4 w ((u.setCell ⟨w.heap.size + 1, 0, none⟩ (.int .i64 x)).setCell ⟨w.heap.size + 1, 1, none⟩ (.int .i64 y)) ax ay x y cx cy dx dy := by
  obtain ⟨h0, h1, h2, h3, g⟩ := h
  exact ⟨(h0.other (by omega) _).other (by omega) _, h1.same x y, (h2.other (by omega) _).other (by omega) _, (h3.other (by omega) _).other (by omega) _, (g.setCell (Nat.le_succ _) _).setCell (Nat.le_succ _) _⟩
set_option maxHeartbeats 4000000 in
theorem rshared_any (ax ay bx by_ cx cy dx dy : Int) (w : World) :
    Calls Try.prog 23 #[.agg #[.int .i64 ax, .int .i64 ay], .agg #[.int .i64 bx, .int .i64 by_], .agg #[.int .i64 cx, .int .i64 cy], .agg #[.int .i64 dx, .int .i64 dy]] w fun e w' => e = .returned (.int .i64 (shF ax ay bx by_ cx cy dx dy)) ∧ Below w.heap.size w w' := by
  obtain ⟨⟨p0, p1, q0, q1⟩, hp⟩ : ∃ t : Int × Int × Int × Int, t = if bf bx by_ ax ay = true then (bx, by_, ax, ay) else (ax, ay, bx, by_) := ⟨_, rfl⟩
  obtain ⟨⟨r0, r1, s0, s1⟩, hq⟩ : ∃ t : Int × Int × Int × Int, t = if bf dx dy cx cy = true then (dx, dy, cx, cy) else (cx, cy, dx, dy) := ⟨_, rfl⟩
  obtain ⟨⟨f0, f1⟩, hf⟩ : ∃ t : Int × Int, t = if bf p0 p1 r0 r1 = true then (r0, r1) else (p0, p1) := ⟨_, rfl⟩
  obtain ⟨⟨l0, l1⟩, hl⟩ : ∃ t : Int × Int, t = if bf s0 s1 q0 q1 = true then (s0, s1) else (q0, q1) := ⟨_, rfl⟩
  rw [shF_val hp hq hf hl]
  obtain ⟨R, hR⟩ : ∃ R : Int, (if f0 = l0 ∧ f1 = l1 then 1 else if bf f0 f1 l0 l1 = true then 2 else 0) = R := ⟨_, rfl⟩
  rw [hR]
  have HR := Lib.hid hR
  have HP := Lib.hid hp
  have HQ := Lib.hid hq
  have HFF := Lib.hid hf
  have HLL := Lib.hid hl
  clear hR hp hq hf hl
  go_enter Try.func23, Try.ntmps23
  go_wp2_with fail
  refine (rfirst_any bx by_ ax ay _).mono ?_
  rintro e w1 ⟨rfl, hb1⟩
  have HB : Hid (M4 w w1 ax ay bx by_ cx cy dx dy) := by
    apply Lib.hid
    have e1 : (w.alloc (.cells #[.int .i64 ax, .int .i64 ay] 23)).heap.size = w.heap.size + 1 := by simp
    have e2 : ((w.alloc (.cells #[.int .i64 ax, .int .i64 ay] 23)).alloc (.cells #[.int .i64 bx, .int .i64 by_] 23)).heap.size = w.heap.size + 1 + 1 := by simp
    have e3 : (((w.alloc (.cells #[.int .i64 ax, .int .i64 ay] 23)).alloc (.cells #[.int .i64 bx, .int .i64 by_] 23)).alloc (.cells #[.int .i64 cx, .int .i64 cy] 23)).heap.size = w.heap.size + 1 + 1 + 1 := by simp
    refine ⟨((((Bx.new w ax ay _).later (below_al _ _)).later (below_al _ _)).later (below_al _ _)).later hb1, ?_, ?_, ?_, below_on (B4_has w ax ay bx by_ cx cy dx dy).2.2.2.2.2.2.2.2 hb1⟩
    · rw [← e1]; exact (((Bx.new _ bx by_ _).later (below_al _ _)).later (below_al _ _)).later hb1
    · rw [← e2]; exact ((Bx.new _ cx cy _).later (below_al _ _)).later hb1
    · rw [← e3]; exact (Bx.new _ dx dy _).later hb1
  clear hb1
  obtain ⟨⟨c0, c1, z0⟩, ⟨c2, c3, z1⟩, ⟨c4, c5, z2⟩, ⟨c6, c7, z3⟩, hg⟩ := HB.out
  clear hg
  go_upto_if 11 with fail
  go_cut [] (fun wc => Hid (M4 w wc p0 p1 q0 q1 cx cy dx dy))
  case first =>
    cases h1 : bf bx by_ ax ay
    · have h := HP.out
      rw [h1] at h
      simp only [Bool.false_eq_true, if_false, Prod.mk.injEq] at h
      obtain ⟨rfl, rfl, rfl, rfl⟩ := h
      go_wp2_with fail
      go_meet
      exact HB
    · have h := HP.out
      rw [h1] at h
      simp only [if_true, Prod.mk.injEq] at h
      obtain ⟨rfl, rfl, rfl, rfl⟩ := h
      go_wp2_with fail
      go_meet
      exact Lib.hid HB.out.swap1
  case rest =>
  clear HB c0 c1 c2 c3 c4 c5 c6 c7 z0 z1 z2 z3
  obtain ⟨⟨c0, c1, z0⟩, ⟨c2, c3, z1⟩, ⟨c4, c5, z2⟩, ⟨c6, c7, z3⟩, hg⟩ := hcut.out
  clear hg
  go_wp2_with fail
  refine (rfirst_any dx dy cx cy _).mono ?_
  rintro e w2 ⟨rfl, hb2⟩
  have HB := Lib.hid (hcut.out.later hb2)
  clear hcut hb2 c0 c1 c2 c3 c4 c5 c6 c7 z0 z1 z2 z3
  obtain ⟨⟨c0, c1, z0⟩, ⟨c2, c3, z1⟩, ⟨c4, c5, z2⟩, ⟨c6, c7, z3⟩, hg⟩ := HB.out
  clear hg wc
  go_upto_if 16 with fail
  go_cut [] (fun wc => Hid (M4 w wc p0 p1 q0 q1 r0 r1 s0 s1))
  case first =>
    cases h1 : bf dx dy cx cy
    · have h := HQ.out
      rw [h1] at h
      simp only [Bool.false_eq_true, if_false, Prod.mk.injEq] at h
      obtain ⟨rfl, rfl, rfl, rfl⟩ := h
      go_wp2_with fail
      go_meet
      exact HB
    · have h := HQ.out
      rw [h1] at h
      simp only [if_true, Prod.mk.injEq] at h
      obtain ⟨rfl, rfl, rfl, rfl⟩ := h
      go_wp2_with fail
      go_meet
      exact Lib.hid HB.out.swap2
  case rest =>
  clear HB c0 c1 c2 c3 c4 c5 c6 c7 z0 z1 z2 z3 HP HQ
  obtain ⟨⟨c0, c1, z0⟩, ⟨c2, c3, z1⟩, ⟨c4, c5, z2⟩, ⟨c6, c7, z3⟩, hg⟩ := hcut.out
  have HB := hcut
  clear hg hcut
  generalize wc = v at *
  go_wp2_with fail
  refine (rfirst_any p0 p1 r0 r1 _).mono ?_
  rintro e w3 ⟨rfl, hb3⟩
  have HC := Lib.hid (HB.out.later hb3)
  clear HB hb3 c0 c1 c2 c3 c4 c5 c6 c7 z0 z1 z2 z3
  obtain ⟨⟨c0, c1, z0⟩, ⟨c2, c3, z1⟩, ⟨c4, c5, z2⟩, ⟨c6, c7, z3⟩, hg⟩ := HC.out
  clear hg v
  go_upto_if 21 with fail
  go_cut [] (fun wc => Hid (M4 w wc f0 f1 q0 q1 r0 r1 s0 s1))
  case first =>
    cases h1 : bf p0 p1 r0 r1
    · have h := HFF.out
      rw [h1] at h
      simp only [Bool.false_eq_true, if_false, Prod.mk.injEq] at h
      obtain ⟨rfl, rfl⟩ := h
      go_wp2_with fail
      go_meet
      exact HC
    · have h := HFF.out
      rw [h1] at h
      simp only [if_true, Prod.mk.injEq] at h
      obtain ⟨rfl, rfl⟩ := h
      go_wp2_with fail
      go_meet
      exact Lib.hid (HC.out.set0 _ _)
  case rest =>
  clear HC c0 c1 c2 c3 c4 c5 c6 c7 z0 z1 z2 z3 HFF
  obtain ⟨⟨c0, c1, z0⟩, ⟨c2, c3, z1⟩, ⟨c4, c5, z2⟩, ⟨c6, c7, z3⟩, hg⟩ := hcut.out
  have HB := hcut
  clear hg hcut
  go_wp2_with fail
  refine (rfirst_any s0 s1 q0 q1 _).mono ?_
  rintro e w4 ⟨rfl, hb4⟩
  have HC := Lib.hid (HB.out.later hb4)
  clear HB hb4 c0 c1 c2 c3 c4 c5 c6 c7 z0 z1 z2 z3
  obtain ⟨⟨c0, c1, z0⟩, ⟨c2, c3, z1⟩, ⟨c4, c5, z2⟩, ⟨c6, c7, z3⟩, hg⟩ := HC.out
  clear hg wc
  go_upto_if 25 with fail
  go_cut [] (fun wc => Hid (M4 w wc f0 f1 l0 l1 r0 r1 s0 s1))
  case first =>
    cases h1 : bf s0 s1 q0 q1
    · have h := HLL.out
      rw [h1] at h
      simp only [Bool.false_eq_true, if_false, Prod.mk.injEq] at h
      obtain ⟨rfl, rfl⟩ := h
      go_wp2_with fail
      go_meet
      exact HC
    · have h := HLL.out
      rw [h1] at h
      simp only [if_true, Prod.mk.injEq] at h
      obtain ⟨rfl, rfl⟩ := h
      go_wp2_with fail
      go_meet
      exact Lib.hid (HC.out.set1 _ _)
  case rest =>
  clear HC c0 c1 c2 c3 c4 c5 c6 c7 z0 z1 z2 z3 HLL
  obtain ⟨⟨d0, d1, y0⟩, ⟨d2, d3, y1⟩, -, -, hg⟩ := hcut.out
  have HG := Lib.hid hg
  clear hg hcut
  by_cases e1 : f0 = l0
  · by_cases e2 : f1 = l1
    · subst e1
      subst e2
      have HR1 := Lib.hid ((if_pos ⟨rfl, rfl⟩).symm.trans HR.out)
      clear HR
      go_wp2
      go_ret
      exact ⟨ret_int HR1.out, HG.out⟩
    · subst e1
      have HR1 := Lib.hid ((if_neg (fun h => e2 h.2)).symm.trans HR.out)
      clear HR
      go_wp2_with fail
      refine (rfirst_any f0 f1 f0 l1 _).mono ?_
      rintro e w5 ⟨rfl, hb5⟩
      have HG2 := Lib.hid (below_on HG.out hb5)
      clear hb5
      cases hx : bf f0 f1 f0 l1
      · have HR2 := Lib.hid ((by rw [hx]; rfl : (0 : Int) = _).trans HR1.out)
        go_wp2
        go_ret
        exact ⟨ret_int HR2.out, HG2.out⟩
      · have HR2 := Lib.hid ((by rw [hx]; rfl : (2 : Int) = _).trans HR1.out)
        go_wp2
        go_ret
        exact ⟨ret_int HR2.out, HG2.out⟩
  · have HR1 := Lib.hid ((if_neg (fun h => e1 h.1)).symm.trans HR.out)
    clear HR
    go_wp2_with fail
    refine (rfirst_any f0 f1 l0 l1 _).mono ?_
    rintro e w5 ⟨rfl, hb5⟩
    have HG2 := Lib.hid (below_on HG.out hb5)
    clear hb5
    cases hx : bf f0 f1 l0 l1
    · have HR2 := Lib.hid ((by rw [hx]; rfl : (0 : Int) = _).trans HR1.out)
      go_wp2
      go_ret
      exact ⟨ret_int HR2.out, HG2.out⟩
    · have HR2 := Lib.hid ((by rw [hx]; rfl : (2 : Int) = _).trans HR1.out)
      go_wp2
      go_ret
      exact ⟨ret_int HR2.out, HG2.out⟩
end Go.Proofs.Ytpdiojndfckmfaa
