/- cut.Path at the chapter's example. (printed by mkpath.py) -/
import Derived.Test.YtpdiojndfckmfaaCutH
import Derived.Test.YtpdiojndfckmfaaCutJ
import Derived.Test.YtpdiojndfckmfaaFreeL
import Derived.Test.YtpdiojndfckmfaaGeoG
namespace Go.Proofs.Ytpdiojndfckmfaa
open Go.RowKit
open Num Geo Cut
set_option linter.unusedVariables false
theorem clip_is {ax ay bx by_ x0 y0 x1 y1 cx cy dx dy : Int} {o : Bool} (h : clO ax ay bx by_ x0 y0 x1 y1 = o ∧ clV o (clS ax ay bx by_ x0 y0 x1 y1).x1 = cx ∧ clV o (clS ax ay bx by_ x0 y0 x1 y1).y1 = cy ∧ clV o (clS ax ay bx by_ x0 y0 x1 y1).x2 = dx ∧ clV o (clS ax ay bx by_ x0 y0 x1 y1).y2 = dy)
    (h1 : I64 x0) (h2 : I64 y0) (h3 : I64 x1) (h4 : I64 y1) (w : World) :
    Calls Try.prog 12 #[.agg #[.int .i64 ax, .int .i64 ay], .agg #[.int .i64 bx, .int .i64 by_], .agg #[.int .i64 x0, .int .i64 y0, .int .i64 x1, .int .i64 y1]] w
      fun e w' => e = .returned (.tuple #[.agg #[.int .i64 cx, .int .i64 cy], .agg #[.int .i64 dx, .int .i64 dy], .bool o]) ∧ Below w.heap.size w w' := by
  obtain ⟨rfl, rfl, rfl, rfl, rfl⟩ := h
  exact Clip_any ax ay bx by_ x0 y0 x1 y1 w h1 h2 h3 h4
set_option maxRecDepth 10000
theorem ex_clip1 : clO (-2) 1 2 1 0 0 4 4 = true ∧ clV true (clS (-2) 1 2 1 0 0 4 4).x1 = 0 ∧ clV true (clS (-2) 1 2 1 0 0 4 4).y1 = 1 ∧ clV true (clS (-2) 1 2 1 0 0 4 4).x2 = 2 ∧ clV true (clS (-2) 1 2 1 0 0 4 4).y2 = 1 := by decide
theorem ex_clip2 : clO 2 1 2 9 0 0 4 4 = true ∧ clV true (clS 2 1 2 9 0 0 4 4).x1 = 2 ∧ clV true (clS 2 1 2 9 0 0 4 4).y1 = 1 ∧ clV true (clS 2 1 2 9 0 0 4 4).x2 = 2 ∧ clV true (clS 2 1 2 9 0 0 4 4).y2 = 4 := by decide
theorem ex_clip3 : clO 2 9 3 9 0 0 4 4 = false ∧ clV false (clS 2 9 3 9 0 0 4 4).x1 = 0 ∧ clV false (clS 2 9 3 9 0 0 4 4).y1 = 0 ∧ clV false (clS 2 9 3 9 0 0 4 4).x2 = 0 ∧ clV false (clS 2 9 3 9 0 0 4 4).y2 = 0 := by decide
theorem ex_clip4 : clO 3 9 3 1 0 0 4 4 = true ∧ clV true (clS 3 9 3 1 0 0 4 4).x1 = 3 ∧ clV true (clS 3 9 3 1 0 0 4 4).y1 = 4 ∧ clV true (clS 3 9 3 1 0 0 4 4).x2 = 3 ∧ clV true (clS 3 9 3 1 0 0 4 4).y2 = 1 := by decide
theorem ex_clip0 : clO (-4) 0 8 6 0 0 4 4 = true ∧ clV true (clS (-4) 0 8 6 0 0 4 4).x1 = 0 ∧ clV true (clS (-4) 0 8 6 0 0 4 4).y1 = 2 ∧ clV true (clS (-4) 0 8 6 0 0 4 4).x2 = 4 ∧ clV true (clS (-4) 0 8 6 0 0 4 4).y2 = 4 := by decide
/-- the example's path -/
def exL : List (Int × Int) := [(-2, 1), (2, 1), (2, 9), (3, 9), (3, 1)]
/-- the open part and the finished parts ahead of each round -/
def pathP (k : Int) : List (Int × Int) := if k = 2 then [(0, 1), (2, 1)] else if k = 5 then [(3, 4), (3, 1)] else []
def pathF (k : Int) : List (List (Int × Int)) := if 3 ≤ k then [[(0, 1), (2, 1), (2, 4)]] else []
def PI (u0 wr : World) (base kp kq B : Nat) (part : List (Int × Int)) (fin : List (List (Int × Int))) : Prop := ∃ f va vo pb, PS wr base kp kq part f va vo pb ∧ f.map (·.2) = fin ∧ Below B u0 wr
/-- what Path leaves -/
def Parts (w : World) (vo : Value) (fin : List (List (Int × Int))) : Prop := ∃ (base : Nat) (f : List (Value × List (Int × Int))), f.map (·.2) = fin ∧ w.ownsRow base 45 1 vo f.length (f.map (·.1)) ∧ ∀ q ∈ f, w.ownsRow base 23 2 q.1 q.2.length (pcs q.2)
theorem PS.parts {v : World} {base kp kq : Nat} {part : List (Int × Int)} {fin : List (Value × List (Int × Int))} {va vo : Value} {pb : Nat} (h : PS v base kp kq part fin va vo pb) (z : Value) : Parts (v.setCell ⟨kq, 0, none⟩ z) vo (fin.map (·.2)) := by
  obtain ⟨h1, h2, h3, h4, h5, h6, h7, h8, h9, h10⟩ := h
  exact ⟨base, fin, rfl, ownsRow_setCell_below h9 h2 _, fun q hq => ownsRow_setCell_below (h10 q hq).1 h2 _⟩
theorem bx_of {v : World} {b : Nat} {t : TypeId} (h : v.heap[b]? = some (.cells #[.int .i64 0, .int .i64 0] t)) : Bx v b 0 0 := by
  refine ⟨?_, ?_, fun o => ?_⟩
  all_goals simp [World.cell?, World.frozen?, h]
theorem bx_heap {v u : World} {b : Nat} {x y : Int} (h : Bx v b x y) (e : u.heap[b]? = v.heap[b]?) : Bx u b x y :=
  ⟨(World.cell?_of_block (a := ⟨b, 0, none⟩) e).trans h.1, (World.cell?_of_block (a := ⟨b, 1, none⟩) e).trans h.2.1, fun o => (World.frozen?_of_block (a := ⟨b, o, none⟩) e).trans (h.2.2 o)⟩
/-- the two results of Clip in their boxes -/
theorem two_bx {w u : World} {g g' : Nat} (hb : Below w.heap.size w u) (h1 : w.heap.size ≤ g) (h2 : w.heap.size ≤ g') (h3 : g ≠ g') (q1 : Bx u g 0 0) (q2 : Bx u g' 0 0) (cx cy dx dy : Int) :
    let v := (((u.setCell ⟨g, 0, none⟩ (.int .i64 cx)).setCell ⟨g, 1, none⟩ (.int .i64 cy)).setCell ⟨g', 0, none⟩ (.int .i64 dx)).setCell ⟨g', 1, none⟩ (.int .i64 dy)
    Bx v g cx cy ∧ Bx v g' dx dy ∧ Below w.heap.size w v := by
  intro v
  exact ⟨((q1.same cx cy).other h3 _).other h3 _, (((q2.other (Ne.symm h3) _).other (Ne.symm h3) _).same dx dy), (((hb.setCell h1 _).setCell h1 _).setCell h2 _).setCell h2 _⟩
set_option maxRecDepth 100000 in
set_option maxHeartbeats 16000000 in
theorem Path_ex (b : Nat) (w : World) (hA : Pts w w.heap.size (some ⟨b, 0, none⟩) exL) :
    Calls Try.prog 24 #[.slice (some ⟨b, 0, none⟩) 5 5, .agg #[.int .i64 0, .int .i64 0, .int .i64 4, .int .i64 4]] w fun e w' => ∃ vo, e = .returned vo ∧ Parts w' vo [[(0, 1), (2, 1), (2, 4)], [(3, 4), (3, 1)]] ∧ Below w.heap.size w w' := by
  have HA := Lib.hid hA
  have hbw : b < w.heap.size := by obtain ⟨b', o', e, h, -⟩ := hA (by decide); simp at e; omega
  have QC : Hid (w.cell? ⟨b, 0, none⟩ = some (.int .i64 (-2)) ∧ w.cell? ⟨b, 1, none⟩ = some (.int .i64 1) ∧ w.cell? ⟨b, 2, none⟩ = some (.int .i64 2) ∧ w.cell? ⟨b, 3, none⟩ = some (.int .i64 1) ∧ w.cell? ⟨b, 4, none⟩ = some (.int .i64 2) ∧ w.cell? ⟨b, 5, none⟩ = some (.int .i64 9) ∧ w.cell? ⟨b, 6, none⟩ = some (.int .i64 3) ∧ w.cell? ⟨b, 7, none⟩ = some (.int .i64 9) ∧ w.cell? ⟨b, 8, none⟩ = some (.int .i64 3) ∧ w.cell? ⟨b, 9, none⟩ = some (.int .i64 1)) := Lib.hid (by
    obtain ⟨b', o', e, h, hc⟩ := hA (by decide)
    simp at e
    obtain ⟨rfl, rfl⟩ := e
    exact ⟨by simpa [exL] using (hc 0 (by decide)).1, by simpa [exL] using (hc 0 (by decide)).2, by simpa [exL] using (hc 1 (by decide)).1, by simpa [exL] using (hc 1 (by decide)).2, by simpa [exL] using (hc 2 (by decide)).1, by simpa [exL] using (hc 2 (by decide)).2, by simpa [exL] using (hc 3 (by decide)).1, by simpa [exL] using (hc 3 (by decide)).2, by simpa [exL] using (hc 4 (by decide)).1, by simpa [exL] using (hc 4 (by decide)).2⟩)
  clear hA
  go_enter Try.func24, Try.ntmps24
  go_wp2_with fail
  have X0 := Lib.hid (Pl.new w 0 0 4 4 25)
  have A1 := Lib.hid (below_al w (.cells #[.int .i64 0, .int .i64 0, .int .i64 4, .int .i64 4] 25))
  have s1 : (w.alloc (.cells #[.int .i64 0, .int .i64 0, .int .i64 4, .int .i64 4] 25)).heap.size = w.heap.size + 1 := by simp
  generalize hv1 : w.alloc (.cells #[.int .i64 0, .int .i64 0, .int .i64 4, .int .i64 4] 25) = v1 at *
  clear hv1
  have o1 : (v1.alloc (.cells #[.slice none 0 0] 46)).heap[w.heap.size + 1]? = some (.cells #[.slice none 0 0] 46 (0, 0)) := by rw [← s1]; show (v1.heap.push _)[v1.heap.size]? = _; simp
  have A2 := Lib.hid (below_al v1 (.cells #[.slice none 0 0] 46))
  have s2 : (v1.alloc (.cells #[.slice none 0 0] 46)).heap.size = w.heap.size + 1 + 1 := by simp [s1]
  generalize hv2 : v1.alloc (.cells #[.slice none 0 0] 46) = v2 at *
  clear hv2
  have AB2 := Lib.hid (below_on A1.out A2.out)
  refine (acc_any exL (some ⟨b, 0, none⟩) 5 v2 (by decide) (HA.out.later AB2.out)).mono ?_
  rintro e v3 ⟨rfl, hb⟩
  rw [show nearL exL = true by decide]
  have o3 := (hb.block _ (lt_of_block o1)).trans o1
  have X3 := Lib.hid (((X0.out.later A2.out).later hb))
  have s3 := hb.size
  have AB3 := Lib.hid (below_on AB2.out hb)
  clear hb A2 A1 AB2 X0 o1
  have OW : (v3.alloc (.cells #[.slice none 0 0] 45)).heap[v3.heap.size]? = some (.cells #[.slice none 0 0] 45 (0, 0)) := by show (v3.heap.push _)[v3.heap.size]? = _; simp
  have A4 := Lib.hid (below_al v3 (.cells #[.slice none 0 0] 45))
  have s4 : (v3.alloc (.cells #[.slice none 0 0] 45)).heap.size = v3.heap.size + 1 := by simp
  go_upto_region 4 with fail
  generalize hv4 : v3.alloc (.cells #[.slice none 0 0] 45) = v4 at *
  clear hv4
  have o4 := (A4.out.block _ (lt_of_block o3)).trans o3
  have PS0 : Hid (PS v4 (v3.heap.size + 1) v3.heap.size (w.heap.size + 1) [] [] (.slice none 0 0) (.slice none 0 0) (v3.heap.size + 1)) := Lib.hid
    ⟨by omega, by omega, by omega, by omega, by omega, OW, o4, World.ownsRow_nil _ _ _ _, World.ownsRow_nil _ _ _ _, fun q hq => by cases hq⟩
  have X4 := Lib.hid (X3.out.later A4.out)
  have AB4 := Lib.hid (below_on AB3.out A4.out)
  have Q4 : Hid (v4.cell? ⟨b, 0, none⟩ = some (.int .i64 (-2)) ∧ v4.cell? ⟨b, 1, none⟩ = some (.int .i64 1) ∧ v4.cell? ⟨b, 2, none⟩ = some (.int .i64 2) ∧ v4.cell? ⟨b, 3, none⟩ = some (.int .i64 1) ∧ v4.cell? ⟨b, 4, none⟩ = some (.int .i64 2) ∧ v4.cell? ⟨b, 5, none⟩ = some (.int .i64 9) ∧ v4.cell? ⟨b, 6, none⟩ = some (.int .i64 3) ∧ v4.cell? ⟨b, 7, none⟩ = some (.int .i64 9) ∧ v4.cell? ⟨b, 8, none⟩ = some (.int .i64 3) ∧ v4.cell? ⟨b, 9, none⟩ = some (.int .i64 1)) := Lib.hid (by
    obtain ⟨q0, q1, q2, q3, q4, q5, q6, q7, q8, q9⟩ := QC.out
    exact ⟨cell_on q0 AB4.out, cell_on q1 AB4.out, cell_on q2 AB4.out, cell_on q3 AB4.out, cell_on q4 AB4.out, cell_on q5 AB4.out, cell_on q6 AB4.out, cell_on q7 AB4.out, cell_on q8 AB4.out, cell_on q9 AB4.out⟩)
  have hb4 : b < v4.heap.size := by omega
  have hkk : w.heap.size + 1 ≤ v3.heap.size := by omega
  clear X3 A4 AB3 o3 o4 OW QC HA s1 s2 s4
  generalize hkp : v3.heap.size = kp at *
  clear hkp s3
  generalize hB : w.heap.size + 1 = B at *
  go_wp2_with fail
  go_loopw [8] (fun i wr => ∃ k : Int, 1 ≤ k ∧ k ≤ 5 ∧ i = .int .i64 k ∧ Hid (PI v4 wr (kp + 1) kp B B (pathP k) (pathF k))) (fun i _ => 5 - (intOf i).toNat)
  case atStart => exact ⟨1, by omega, by omega, rfl, Lib.hid ⟨[], _, _, _, PS0.out, rfl, Below.refl _ _⟩⟩
  case round =>
    clear PS0
    obtain ⟨k, hk1, hk2, rfl, HI⟩ := hrel
    rcases (show k = 1 ∨ k = 2 ∨ k = 3 ∨ k = 4 ∨ k = 5 by omega) with rfl | rfl | rfl | rfl | rfl
    · obtain ⟨f, va, vo, pb, hp, hf, hbl⟩ := HI.out
      have HP : Hid (PS wr (kp + 1) kp B [] f va vo pb) := Lib.hid hp
      have HF : Hid (f.map (·.2) = []) := Lib.hid hf
      have HB := Lib.hid hbl
      clear HI hp hf hbl hk1 hk2
      obtain ⟨q0, q1, q2, q3, -, -, -, -, -, -⟩ := Q4.out
      have r0 : wr.cell? ⟨b, 0, none⟩ = some (.int .i64 (-2)) := (HB.out.cell (by show b < B; omega)).trans q0
      have r1 : wr.cell? ⟨b, 1, none⟩ = some (.int .i64 1) := (HB.out.cell (by show b < B; omega)).trans q1
      have r2 : wr.cell? ⟨b, 2, none⟩ = some (.int .i64 2) := (HB.out.cell (by show b < B; omega)).trans q2
      have r3 : wr.cell? ⟨b, 3, none⟩ = some (.int .i64 1) := (HB.out.cell (by show b < B; omega)).trans q3
      clear q0 q1 q2 q3
      have XB := Lib.hid (X4.out.keep HB.out (by omega))
      obtain ⟨x0, x1, x2, x3, -⟩ := XB.out
      have CK := Lib.hid (fun v => clip_is ex_clip1 (by unfold I64; decide) (by unfold I64; decide) (by unfold I64; decide) (by unfold I64; decide) v)
      go_wp2_with fail
      refine region_freeL (P := Try.prog) [13, 14] 15 17 63 23 (.cells #[.int .i64 0, .int .i64 0] 23) (by kernel_rfl) (by decide) (by kernel_rfl) (fun _ _ _ _ _ h => h) ?_ (by kernel_rfl) (by kernel_rfl) alloc_pt ?_
      · rfl
      apply Exists.intro
      refine ⟨?hq1, ?hf1⟩
      case hq1 =>
        intro X' hne
        haveI := hne
        simp only [List.take_succ_cons, List.take_zero]
        have L0 := fun m' : LaterX wr X' => m'.cell r0
        have L1 := fun m' : LaterX wr X' => m'.cell r1
        have L2 := fun m' : LaterX wr X' => m'.cell r2
        have L3 := fun m' : LaterX wr X' => m'.cell r3
        have L4 := fun m' : LaterX wr X' => m'.cell x0
        have L5 := fun m' : LaterX wr X' => m'.cell x1
        have L6 := fun m' : LaterX wr X' => m'.cell x2
        have L7 := fun m' : LaterX wr X' => m'.cell x3
        (go_big_quiet_want; go_big_quiet_op; go_big_quiet_on)
        (go_big_quiet_want; go_big_quiet_op; go_big_quiet_on)
        (go_big_quiet_want; go_big_quiet_op; go_big_quiet_on)
        (go_big_quiet_want; go_big_quiet_op; go_big_quiet_on)
        (go_big_quiet_want; go_big_quiet_op; go_big_quiet_on)
        (go_big_quiet_want; go_big_quiet_op; go_big_quiet_on)
        (go_big_quiet_want; go_big_quiet_op; go_big_quiet_on)
        (go_big_quiet_want; go_big_quiet_op; go_big_quiet_on)
        (go_big_quiet_want; go_big_quiet_op; go_big_quiet_on)
        (go_big_quiet_want; go_big_quiet_op; go_big_quiet_on)
        (go_big_quiet_want; go_big_quiet_op; go_big_quiet_call (exact laterX_of (CK.out _)))
        (go_big_quiet_want; go_big_quiet_op; go_big_quiet_on)
        (go_big_quiet_want; go_big_quiet_op; go_big_quiet_on)
        (go_big_quiet_want; go_big_quiet_op; go_big_quiet_on)
        (go_big_quiet_want; go_big_quiet_op; go_big_quiet_on)
        exact wpQuiet_nil rfl
      intro G w8 hb hG hd
      simp only [List.take_succ_cons, List.take_zero, List.drop_succ_cons, List.drop_zero, ptrs, putsL]
      obtain ⟨p1, p2, p3⟩ := hG 15 (by decide) (by decide)
      obtain ⟨t1, t2, t3⟩ := hG 16 (by decide) (by decide)
      have hgg := hd 15 16 (by decide) (by decide) (by decide) (by decide) (by decide)
      generalize G 15 = g at *
      generalize G 16 = g' at *
      have TW := Lib.hid (two_bx hb p1 t1 hgg (bx_of p3) (bx_of t3) 0 1 2 1)
      obtain ⟨m0, m1, ym⟩ := bx_of p3
      obtain ⟨n0, n1, yn⟩ := bx_of t3
      have hgn := Ne.symm hgg
      clear hG hd hb p2 p3 t2 t3 r0 r1 r2 r3 x0 x1 x2 x3 CK
      go_upto_region 10 with fail
      obtain ⟨TC, TD, TB⟩ := TW.out
      have HC := Lib.hid TC
      have HD := Lib.hid TD
      have HU := Lib.hid TB
      clear TW TC TD TB m0 m1 ym n0 n1 yn hgn hgg
      generalize hu : (((w8.setCell ⟨g, 0, none⟩ (.int .i64 0)).setCell ⟨g, 1, none⟩ (.int .i64 1)).setCell ⟨g', 0, none⟩ (.int .i64 2)).setCell ⟨g', 1, none⟩ (.int .i64 1) = u at *
      clear hu
      have HP2 := Lib.hid (HP.out.later HU.out)
      have HB2 := Lib.hid (HB.out.trans (HU.out.mono (by have := HP.out.1; have := HP.out.2.2.2.2.1; have := HP.out.2.2.2.1; omega)))
      obtain ⟨a, cap, hva⟩ : ∃ a cap, va = .slice a 0 cap := own_slice HP2.out.2.2.2.2.2.2.2.1
      subst hva
      have cP := cell_of_one HP2.out.2.2.2.2.2.1
      have hkw : kp < wr.heap.size := lt_of_block HP.out.2.2.2.2.2.1
      have hvl := HP.out.2.2.2.2.2.2.2.1.lt
      obtain ⟨c0, c1, -⟩ := HC.out
      clear HC
      go_wp2_with fail
      refine (addE_any 0 1 f _ vo pb (kp + 1) kp B B u hkk HP2.out).mono ?_
      rintro e u2 ⟨rfl, v', hp3, hb3, hs3, hk3⟩
      have HD2 := Lib.hid (bx_heap HD.out (hk3 g' (HD.out.lt) (by omega) (fun e => by have := (hvl g' e.symm).2; omega)))
      have HP3 := Lib.hid hp3
      have HB3 := Lib.hid (HB2.out.trans hb3)
      clear hp3 hb3 hs3 hk3 HD HP2 HB2 c0 c1 cP
      obtain ⟨d0, d1, -⟩ := HD2.out
      clear HD2
      go_wp2_with fail
      refine (addX_any 2 1 0 1 [] f v' vo pb (kp + 1) kp B B u2 hkk HP3.out (by decide) (by decide)).mono ?_
      rintro e u3 ⟨rfl, v2, hp4, hb4', -, -⟩
      have HP4 : Hid (PS u3 (kp + 1) kp B [(0, 1), (2, 1)] f v2 vo pb) := Lib.hid hp4
      have HB4 := Lib.hid (HB3.out.trans hb4')
      clear hp4 hb4' HP3 HB3 HP HB d0 d1 hvl hkw p1 t1 HU
      obtain ⟨-, -, q2, q3, -, -, -, -, -, -⟩ := Q4.out
      have r2 : u3.cell? ⟨b, 2, none⟩ = some (.int .i64 2) := (HB4.out.cell (by show b < B; omega)).trans q2
      have r3 : u3.cell? ⟨b, 3, none⟩ = some (.int .i64 1) := (HB4.out.cell (by show b < B; omega)).trans q3
      have XB3 := Lib.hid (X4.out.keep HB4.out (by omega))
      obtain ⟨x0, x1, x2, x3, -⟩ := XB3.out
      have M0 := fun m : Later u3 => m.cell r2
      have M1 := fun m : Later u3 => m.cell r3
      have M2 := fun m : Later u3 => m.cell x0
      have M3 := fun m : Later u3 => m.cell x1
      have M4 := fun m : Later u3 => m.cell x2
      have M5 := fun m : Later u3 => m.cell x3
      have IN := Lib.hid (fun v => In_any 0 0 4 4 2 1 v)
      rw [show inB 0 0 4 4 2 1 = true by decide] at IN
      go_wp2_with fail
      refine region_later (by kernel_rfl) (by kernel_rfl) ?_
      (go_big_quiet_want; go_big_quiet_op; go_big_quiet_on)
      (go_big_quiet_want; go_big_quiet_op; go_big_quiet_on)
      (go_big_quiet_want; go_big_quiet_op; go_big_quiet_on)
      (go_big_quiet_want; go_big_quiet_op; go_big_quiet_on)
      (go_big_quiet_want; go_big_quiet_op; go_big_quiet_on)
      (go_big_quiet_want; go_big_quiet_op; go_big_quiet_call (exact later_of (IN.out _)))
      (go_big_quiet_want; go_big_quiet_op; go_big_quiet_on)
      refine wpQuiet_nil ?_
      refine later_end ?_
      intro m
      have HP5 := Lib.hid (HP4.out.later m.below)
      have HB5 := Lib.hid (HB4.out.trans (m.below.mono (by have := HP4.out.2.2.2.2.1; have := HP4.out.2.2.2.1; omega)))
      clear HP4 HB4 M0 M1 M2 M3 M4 M5 IN x0 x1 x2 x3 r2 r3 q2 q3 XB3 XB
      generalize m.wd = u5 at *
      clear m
      have H6 : Hid (PI v4 u5 (kp + 1) kp B B [(0, 1), (2, 1)] []) := Lib.hid ⟨f, _, vo, _, HP5.out, HF.out, HB5.out⟩
      clear HP5 HB5 HF
      go_wp2
      go_roundw
      case rel => exact ⟨2, by omega, by omega, by go_num, Lib.hid H6.out⟩
      case measure => simp [intOf] <;> omega
    · obtain ⟨f, va, vo, pb, hp, hf, hbl⟩ := HI.out
      have HP : Hid (PS wr (kp + 1) kp B [(0, 1), (2, 1)] f va vo pb) := Lib.hid hp
      have HF : Hid (f.map (·.2) = []) := Lib.hid hf
      have HB := Lib.hid hbl
      clear HI hp hf hbl hk1 hk2
      obtain ⟨-, -, q2, q3, q4, q5, -, -, -, -⟩ := Q4.out
      have r2 : wr.cell? ⟨b, 2, none⟩ = some (.int .i64 2) := (HB.out.cell (by show b < B; omega)).trans q2
      have r3 : wr.cell? ⟨b, 3, none⟩ = some (.int .i64 1) := (HB.out.cell (by show b < B; omega)).trans q3
      have r4 : wr.cell? ⟨b, 4, none⟩ = some (.int .i64 2) := (HB.out.cell (by show b < B; omega)).trans q4
      have r5 : wr.cell? ⟨b, 5, none⟩ = some (.int .i64 9) := (HB.out.cell (by show b < B; omega)).trans q5
      clear q2 q3 q4 q5
      have XB := Lib.hid (X4.out.keep HB.out (by omega))
      obtain ⟨x0, x1, x2, x3, -⟩ := XB.out
      have CK := Lib.hid (fun v => clip_is ex_clip2 (by unfold I64; decide) (by unfold I64; decide) (by unfold I64; decide) (by unfold I64; decide) v)
      go_wp2_with fail
      refine region_freeL (P := Try.prog) [13, 14] 15 17 63 23 (.cells #[.int .i64 0, .int .i64 0] 23) (by kernel_rfl) (by decide) (by kernel_rfl) (fun _ _ _ _ _ h => h) ?_ (by kernel_rfl) (by kernel_rfl) alloc_pt ?_
      · rfl
      apply Exists.intro
      refine ⟨?hq2, ?hf2⟩
      case hq2 =>
        intro X' hne
        haveI := hne
        simp only [List.take_succ_cons, List.take_zero]
        have L0 := fun m' : LaterX wr X' => m'.cell r2
        have L1 := fun m' : LaterX wr X' => m'.cell r3
        have L2 := fun m' : LaterX wr X' => m'.cell r4
        have L3 := fun m' : LaterX wr X' => m'.cell r5
        have L4 := fun m' : LaterX wr X' => m'.cell x0
        have L5 := fun m' : LaterX wr X' => m'.cell x1
        have L6 := fun m' : LaterX wr X' => m'.cell x2
        have L7 := fun m' : LaterX wr X' => m'.cell x3
        (go_big_quiet_want; go_big_quiet_op; go_big_quiet_on)
        (go_big_quiet_want; go_big_quiet_op; go_big_quiet_on)
        (go_big_quiet_want; go_big_quiet_op; go_big_quiet_on)
        (go_big_quiet_want; go_big_quiet_op; go_big_quiet_on)
        (go_big_quiet_want; go_big_quiet_op; go_big_quiet_on)
        (go_big_quiet_want; go_big_quiet_op; go_big_quiet_on)
        (go_big_quiet_want; go_big_quiet_op; go_big_quiet_on)
        (go_big_quiet_want; go_big_quiet_op; go_big_quiet_on)
        (go_big_quiet_want; go_big_quiet_op; go_big_quiet_on)
        (go_big_quiet_want; go_big_quiet_op; go_big_quiet_on)
        (go_big_quiet_want; go_big_quiet_op; go_big_quiet_call (exact laterX_of (CK.out _)))
        (go_big_quiet_want; go_big_quiet_op; go_big_quiet_on)
        (go_big_quiet_want; go_big_quiet_op; go_big_quiet_on)
        (go_big_quiet_want; go_big_quiet_op; go_big_quiet_on)
        (go_big_quiet_want; go_big_quiet_op; go_big_quiet_on)
        exact wpQuiet_nil rfl
      intro G w8 hb hG hd
      simp only [List.take_succ_cons, List.take_zero, List.drop_succ_cons, List.drop_zero, ptrs, putsL]
      obtain ⟨p1, p2, p3⟩ := hG 15 (by decide) (by decide)
      obtain ⟨t1, t2, t3⟩ := hG 16 (by decide) (by decide)
      have hgg := hd 15 16 (by decide) (by decide) (by decide) (by decide) (by decide)
      generalize G 15 = g at *
      generalize G 16 = g' at *
      have TW := Lib.hid (two_bx hb p1 t1 hgg (bx_of p3) (bx_of t3) 2 1 2 4)
      obtain ⟨m0, m1, ym⟩ := bx_of p3
      obtain ⟨n0, n1, yn⟩ := bx_of t3
      have hgn := Ne.symm hgg
      clear hG hd hb p2 p3 t2 t3 r2 r3 r4 r5 x0 x1 x2 x3 CK
      go_upto_region 10 with fail
      obtain ⟨TC, TD, TB⟩ := TW.out
      have HC := Lib.hid TC
      have HD := Lib.hid TD
      have HU := Lib.hid TB
      clear TW TC TD TB m0 m1 ym n0 n1 yn hgn hgg
      generalize hu : (((w8.setCell ⟨g, 0, none⟩ (.int .i64 2)).setCell ⟨g, 1, none⟩ (.int .i64 1)).setCell ⟨g', 0, none⟩ (.int .i64 2)).setCell ⟨g', 1, none⟩ (.int .i64 4) = u at *
      clear hu
      have HP2 := Lib.hid (HP.out.later HU.out)
      have HB2 := Lib.hid (HB.out.trans (HU.out.mono (by have := HP.out.1; have := HP.out.2.2.2.2.1; have := HP.out.2.2.2.1; omega)))
      obtain ⟨a, cap, hva⟩ : ∃ a cap, va = .slice a 2 cap := own_slice HP2.out.2.2.2.2.2.2.2.1
      subst hva
      have cP := cell_of_one HP2.out.2.2.2.2.2.1
      have hkw : kp < wr.heap.size := lt_of_block HP.out.2.2.2.2.2.1
      have hvl := HP.out.2.2.2.2.2.2.2.1.lt
      clear HC
      obtain ⟨d0, d1, -⟩ := HD.out
      clear HD
      go_wp2_with fail
      refine (addY_any 2 4 1 [(0, 1)] f _ vo pb (kp + 1) kp B B u hkk HP2.out (by decide) (by decide)).mono ?_
      rintro e u3 ⟨rfl, v2, hp4, hb4', -, -⟩
      have HP4 : Hid (PS u3 (kp + 1) kp B [(0, 1), (2, 1), (2, 4)] f v2 vo pb) := Lib.hid hp4
      have HB4 := Lib.hid (HB2.out.trans hb4')
      clear hp4 hb4' HP2 HB2 HP HB d0 d1 hvl hkw p1 t1 HU cP
      obtain ⟨-, -, -, -, q4, q5, -, -, -, -⟩ := Q4.out
      have r4 : u3.cell? ⟨b, 4, none⟩ = some (.int .i64 2) := (HB4.out.cell (by show b < B; omega)).trans q4
      have r5 : u3.cell? ⟨b, 5, none⟩ = some (.int .i64 9) := (HB4.out.cell (by show b < B; omega)).trans q5
      have XB3 := Lib.hid (X4.out.keep HB4.out (by omega))
      obtain ⟨x0, x1, x2, x3, -⟩ := XB3.out
      have M0 := fun m : Later u3 => m.cell r4
      have M1 := fun m : Later u3 => m.cell r5
      have M2 := fun m : Later u3 => m.cell x0
      have M3 := fun m : Later u3 => m.cell x1
      have M4 := fun m : Later u3 => m.cell x2
      have M5 := fun m : Later u3 => m.cell x3
      have IN := Lib.hid (fun v => In_any 0 0 4 4 2 9 v)
      rw [show inB 0 0 4 4 2 9 = false by decide] at IN
      go_wp2_with fail
      refine region_later (by kernel_rfl) (by kernel_rfl) ?_
      (go_big_quiet_want; go_big_quiet_op; go_big_quiet_on)
      (go_big_quiet_want; go_big_quiet_op; go_big_quiet_on)
      (go_big_quiet_want; go_big_quiet_op; go_big_quiet_on)
      (go_big_quiet_want; go_big_quiet_op; go_big_quiet_on)
      (go_big_quiet_want; go_big_quiet_op; go_big_quiet_on)
      (go_big_quiet_want; go_big_quiet_op; go_big_quiet_call (exact later_of (IN.out _)))
      (go_big_quiet_want; go_big_quiet_op; go_big_quiet_on)
      refine wpQuiet_nil ?_
      refine later_end ?_
      intro m
      have HP5 := Lib.hid (HP4.out.later m.below)
      have HB5 := Lib.hid (HB4.out.trans (m.below.mono (by have := HP4.out.2.2.2.2.1; have := HP4.out.2.2.2.1; omega)))
      clear HP4 HB4 M0 M1 M2 M3 M4 M5 IN x0 x1 x2 x3 r4 r5 q4 q5 XB3 XB
      generalize m.wd = u5 at *
      clear m
      have hfl : f.length = 0 := by have := congrArg List.length HF.out; simpa using this
      go_wp2_with fail
      refine (finY_any [(0, 1), (2, 1), (2, 4)] f _ vo pb (kp + 1) kp B B u5 hkk (Nat.le_refl _) HP5.out (by decide) (by omega)).mono ?_
      rintro e u6 ⟨rfl, vo', hp6, hb6⟩
      have H6 : Hid (PI v4 u6 (kp + 1) kp B B [] [[(0, 1), (2, 1), (2, 4)]]) := Lib.hid ⟨f ++ [(v2, [(0, 1), (2, 1), (2, 4)])], _, vo', _, hp6, by rw [List.map_append, HF.out]; rfl, HB5.out.trans hb6⟩
      clear HP5 HB5 HF hp6 hb6 hfl
      go_wp2
      go_roundw
      case rel => exact ⟨3, by omega, by omega, by go_num, Lib.hid H6.out⟩
      case measure => simp [intOf] <;> omega
    · obtain ⟨f, va, vo, pb, hp, hf, hbl⟩ := HI.out
      have HP : Hid (PS wr (kp + 1) kp B [] f va vo pb) := Lib.hid hp
      have HF : Hid (f.map (·.2) = [[(0, 1), (2, 1), (2, 4)]]) := Lib.hid hf
      have HB := Lib.hid hbl
      clear HI hp hf hbl hk1 hk2
      obtain ⟨-, -, -, -, q4, q5, q6, q7, -, -⟩ := Q4.out
      have r4 : wr.cell? ⟨b, 4, none⟩ = some (.int .i64 2) := (HB.out.cell (by show b < B; omega)).trans q4
      have r5 : wr.cell? ⟨b, 5, none⟩ = some (.int .i64 9) := (HB.out.cell (by show b < B; omega)).trans q5
      have r6 : wr.cell? ⟨b, 6, none⟩ = some (.int .i64 3) := (HB.out.cell (by show b < B; omega)).trans q6
      have r7 : wr.cell? ⟨b, 7, none⟩ = some (.int .i64 9) := (HB.out.cell (by show b < B; omega)).trans q7
      clear q4 q5 q6 q7
      have XB := Lib.hid (X4.out.keep HB.out (by omega))
      obtain ⟨x0, x1, x2, x3, -⟩ := XB.out
      have CK := Lib.hid (fun v => clip_is ex_clip3 (by unfold I64; decide) (by unfold I64; decide) (by unfold I64; decide) (by unfold I64; decide) v)
      go_wp2_with fail
      refine region_freeL (P := Try.prog) [13, 14] 15 17 63 23 (.cells #[.int .i64 0, .int .i64 0] 23) (by kernel_rfl) (by decide) (by kernel_rfl) (fun _ _ _ _ _ h => h) ?_ (by kernel_rfl) (by kernel_rfl) alloc_pt ?_
      · rfl
      apply Exists.intro
      refine ⟨?hq3, ?hf3⟩
      case hq3 =>
        intro X' hne
        haveI := hne
        simp only [List.take_succ_cons, List.take_zero]
        have L0 := fun m' : LaterX wr X' => m'.cell r4
        have L1 := fun m' : LaterX wr X' => m'.cell r5
        have L2 := fun m' : LaterX wr X' => m'.cell r6
        have L3 := fun m' : LaterX wr X' => m'.cell r7
        have L4 := fun m' : LaterX wr X' => m'.cell x0
        have L5 := fun m' : LaterX wr X' => m'.cell x1
        have L6 := fun m' : LaterX wr X' => m'.cell x2
        have L7 := fun m' : LaterX wr X' => m'.cell x3
        (go_big_quiet_want; go_big_quiet_op; go_big_quiet_on)
        (go_big_quiet_want; go_big_quiet_op; go_big_quiet_on)
        (go_big_quiet_want; go_big_quiet_op; go_big_quiet_on)
        (go_big_quiet_want; go_big_quiet_op; go_big_quiet_on)
        (go_big_quiet_want; go_big_quiet_op; go_big_quiet_on)
        (go_big_quiet_want; go_big_quiet_op; go_big_quiet_on)
        (go_big_quiet_want; go_big_quiet_op; go_big_quiet_on)
        (go_big_quiet_want; go_big_quiet_op; go_big_quiet_on)
        (go_big_quiet_want; go_big_quiet_op; go_big_quiet_on)
        (go_big_quiet_want; go_big_quiet_op; go_big_quiet_on)
        (go_big_quiet_want; go_big_quiet_op; go_big_quiet_call (exact laterX_of (CK.out _)))
        (go_big_quiet_want; go_big_quiet_op; go_big_quiet_on)
        (go_big_quiet_want; go_big_quiet_op; go_big_quiet_on)
        (go_big_quiet_want; go_big_quiet_op; go_big_quiet_on)
        (go_big_quiet_want; go_big_quiet_op; go_big_quiet_on)
        exact wpQuiet_nil rfl
      intro G w8 hb hG hd
      simp only [List.take_succ_cons, List.take_zero, List.drop_succ_cons, List.drop_zero, ptrs, putsL]
      obtain ⟨p1, p2, p3⟩ := hG 15 (by decide) (by decide)
      obtain ⟨t1, t2, t3⟩ := hG 16 (by decide) (by decide)
      have hgg := hd 15 16 (by decide) (by decide) (by decide) (by decide) (by decide)
      generalize G 15 = g at *
      generalize G 16 = g' at *
      have TW := Lib.hid (two_bx hb p1 t1 hgg (bx_of p3) (bx_of t3) 0 0 0 0)
      obtain ⟨m0, m1, ym⟩ := bx_of p3
      obtain ⟨n0, n1, yn⟩ := bx_of t3
      have hgn := Ne.symm hgg
      clear hG hd hb p2 p3 t2 t3 r4 r5 r6 r7 x0 x1 x2 x3 CK
      go_upto_region 10 with fail
      obtain ⟨TC, TD, TB⟩ := TW.out
      have HC := Lib.hid TC
      have HD := Lib.hid TD
      have HU := Lib.hid TB
      clear TW TC TD TB m0 m1 ym n0 n1 yn hgn hgg
      generalize hu : (((w8.setCell ⟨g, 0, none⟩ (.int .i64 0)).setCell ⟨g, 1, none⟩ (.int .i64 0)).setCell ⟨g', 0, none⟩ (.int .i64 0)).setCell ⟨g', 1, none⟩ (.int .i64 0) = u at *
      clear hu
      have HP2 := Lib.hid (HP.out.later HU.out)
      have HB2 := Lib.hid (HB.out.trans (HU.out.mono (by have := HP.out.1; have := HP.out.2.2.2.2.1; have := HP.out.2.2.2.1; omega)))
      obtain ⟨a, cap, hva⟩ : ∃ a cap, va = .slice a 0 cap := own_slice HP2.out.2.2.2.2.2.2.2.1
      subst hva
      have cP := cell_of_one HP2.out.2.2.2.2.2.1
      have hkw : kp < wr.heap.size := lt_of_block HP.out.2.2.2.2.2.1
      have hvl := HP.out.2.2.2.2.2.2.2.1.lt
      clear HC HD HU hvl hkw p1 t1
      go_wp2_with fail
      refine (finN_any [] f _ vo pb (kp + 1) kp B B u hkk HP2.out (by decide)).mono ?_
      rintro e u2 ⟨rfl, hp3, hb3⟩
      have H3 : Hid (PI v4 u2 (kp + 1) kp B B [] [[(0, 1), (2, 1), (2, 4)]]) := Lib.hid ⟨f, _, vo, _, hp3, HF.out, HB2.out.trans hb3⟩
      clear hp3 hb3 HP HP2 HB HB2 HF cP
      go_wp2
      go_roundw
      case rel => exact ⟨4, by omega, by omega, by go_num, Lib.hid H3.out⟩
      case measure => simp [intOf] <;> omega
    · obtain ⟨f, va, vo, pb, hp, hf, hbl⟩ := HI.out
      have HP : Hid (PS wr (kp + 1) kp B [] f va vo pb) := Lib.hid hp
      have HF : Hid (f.map (·.2) = [[(0, 1), (2, 1), (2, 4)]]) := Lib.hid hf
      have HB := Lib.hid hbl
      clear HI hp hf hbl hk1 hk2
      obtain ⟨-, -, -, -, -, -, q6, q7, q8, q9⟩ := Q4.out
      have r6 : wr.cell? ⟨b, 6, none⟩ = some (.int .i64 3) := (HB.out.cell (by show b < B; omega)).trans q6
      have r7 : wr.cell? ⟨b, 7, none⟩ = some (.int .i64 9) := (HB.out.cell (by show b < B; omega)).trans q7
      have r8 : wr.cell? ⟨b, 8, none⟩ = some (.int .i64 3) := (HB.out.cell (by show b < B; omega)).trans q8
      have r9 : wr.cell? ⟨b, 9, none⟩ = some (.int .i64 1) := (HB.out.cell (by show b < B; omega)).trans q9
      clear q6 q7 q8 q9
      have XB := Lib.hid (X4.out.keep HB.out (by omega))
      obtain ⟨x0, x1, x2, x3, -⟩ := XB.out
      have CK := Lib.hid (fun v => clip_is ex_clip4 (by unfold I64; decide) (by unfold I64; decide) (by unfold I64; decide) (by unfold I64; decide) v)
      go_wp2_with fail
      refine region_freeL (P := Try.prog) [13, 14] 15 17 63 23 (.cells #[.int .i64 0, .int .i64 0] 23) (by kernel_rfl) (by decide) (by kernel_rfl) (fun _ _ _ _ _ h => h) ?_ (by kernel_rfl) (by kernel_rfl) alloc_pt ?_
      · rfl
      apply Exists.intro
      refine ⟨?hq4, ?hf4⟩
      case hq4 =>
        intro X' hne
        haveI := hne
        simp only [List.take_succ_cons, List.take_zero]
        have L0 := fun m' : LaterX wr X' => m'.cell r6
        have L1 := fun m' : LaterX wr X' => m'.cell r7
        have L2 := fun m' : LaterX wr X' => m'.cell r8
        have L3 := fun m' : LaterX wr X' => m'.cell r9
        have L4 := fun m' : LaterX wr X' => m'.cell x0
        have L5 := fun m' : LaterX wr X' => m'.cell x1
        have L6 := fun m' : LaterX wr X' => m'.cell x2
        have L7 := fun m' : LaterX wr X' => m'.cell x3
        (go_big_quiet_want; go_big_quiet_op; go_big_quiet_on)
        (go_big_quiet_want; go_big_quiet_op; go_big_quiet_on)
        (go_big_quiet_want; go_big_quiet_op; go_big_quiet_on)
        (go_big_quiet_want; go_big_quiet_op; go_big_quiet_on)
        (go_big_quiet_want; go_big_quiet_op; go_big_quiet_on)
        (go_big_quiet_want; go_big_quiet_op; go_big_quiet_on)
        (go_big_quiet_want; go_big_quiet_op; go_big_quiet_on)
        (go_big_quiet_want; go_big_quiet_op; go_big_quiet_on)
        (go_big_quiet_want; go_big_quiet_op; go_big_quiet_on)
        (go_big_quiet_want; go_big_quiet_op; go_big_quiet_on)
        (go_big_quiet_want; go_big_quiet_op; go_big_quiet_call (exact laterX_of (CK.out _)))
        (go_big_quiet_want; go_big_quiet_op; go_big_quiet_on)
        (go_big_quiet_want; go_big_quiet_op; go_big_quiet_on)
        (go_big_quiet_want; go_big_quiet_op; go_big_quiet_on)
        (go_big_quiet_want; go_big_quiet_op; go_big_quiet_on)
        exact wpQuiet_nil rfl
      intro G w8 hb hG hd
      simp only [List.take_succ_cons, List.take_zero, List.drop_succ_cons, List.drop_zero, ptrs, putsL]
      obtain ⟨p1, p2, p3⟩ := hG 15 (by decide) (by decide)
      obtain ⟨t1, t2, t3⟩ := hG 16 (by decide) (by decide)
      have hgg := hd 15 16 (by decide) (by decide) (by decide) (by decide) (by decide)
      generalize G 15 = g at *
      generalize G 16 = g' at *
      have TW := Lib.hid (two_bx hb p1 t1 hgg (bx_of p3) (bx_of t3) 3 4 3 1)
      obtain ⟨m0, m1, ym⟩ := bx_of p3
      obtain ⟨n0, n1, yn⟩ := bx_of t3
      have hgn := Ne.symm hgg
      clear hG hd hb p2 p3 t2 t3 r6 r7 r8 r9 x0 x1 x2 x3 CK
      go_upto_region 10 with fail
      obtain ⟨TC, TD, TB⟩ := TW.out
      have HC := Lib.hid TC
      have HD := Lib.hid TD
      have HU := Lib.hid TB
      clear TW TC TD TB m0 m1 ym n0 n1 yn hgn hgg
      generalize hu : (((w8.setCell ⟨g, 0, none⟩ (.int .i64 3)).setCell ⟨g, 1, none⟩ (.int .i64 4)).setCell ⟨g', 0, none⟩ (.int .i64 3)).setCell ⟨g', 1, none⟩ (.int .i64 1) = u at *
      clear hu
      have HP2 := Lib.hid (HP.out.later HU.out)
      have HB2 := Lib.hid (HB.out.trans (HU.out.mono (by have := HP.out.1; have := HP.out.2.2.2.2.1; have := HP.out.2.2.2.1; omega)))
      obtain ⟨a, cap, hva⟩ : ∃ a cap, va = .slice a 0 cap := own_slice HP2.out.2.2.2.2.2.2.2.1
      subst hva
      have cP := cell_of_one HP2.out.2.2.2.2.2.1
      have hkw : kp < wr.heap.size := lt_of_block HP.out.2.2.2.2.2.1
      have hvl := HP.out.2.2.2.2.2.2.2.1.lt
      obtain ⟨c0, c1, -⟩ := HC.out
      clear HC
      go_wp2_with fail
      refine (addE_any 3 4 f _ vo pb (kp + 1) kp B B u hkk HP2.out).mono ?_
      rintro e u2 ⟨rfl, v', hp3, hb3, hs3, hk3⟩
      have HD2 := Lib.hid (bx_heap HD.out (hk3 g' (HD.out.lt) (by omega) (fun e => by have := (hvl g' e.symm).2; omega)))
      have HP3 := Lib.hid hp3
      have HB3 := Lib.hid (HB2.out.trans hb3)
      clear hp3 hb3 hs3 hk3 HD HP2 HB2 c0 c1 cP
      obtain ⟨d0, d1, -⟩ := HD2.out
      clear HD2
      go_wp2_with fail
      refine (addY_any 3 1 4 [] f v' vo pb (kp + 1) kp B B u2 hkk HP3.out (by decide) (by decide)).mono ?_
      rintro e u3 ⟨rfl, v2, hp4, hb4', -, -⟩
      have HP4 : Hid (PS u3 (kp + 1) kp B [(3, 4), (3, 1)] f v2 vo pb) := Lib.hid hp4
      have HB4 := Lib.hid (HB3.out.trans hb4')
      clear hp4 hb4' HP3 HB3 HP HB d0 d1 hvl hkw p1 t1 HU
      obtain ⟨-, -, -, -, -, -, -, -, q8, q9⟩ := Q4.out
      have r8 : u3.cell? ⟨b, 8, none⟩ = some (.int .i64 3) := (HB4.out.cell (by show b < B; omega)).trans q8
      have r9 : u3.cell? ⟨b, 9, none⟩ = some (.int .i64 1) := (HB4.out.cell (by show b < B; omega)).trans q9
      have XB3 := Lib.hid (X4.out.keep HB4.out (by omega))
      obtain ⟨x0, x1, x2, x3, -⟩ := XB3.out
      have M0 := fun m : Later u3 => m.cell r8
      have M1 := fun m : Later u3 => m.cell r9
      have M2 := fun m : Later u3 => m.cell x0
      have M3 := fun m : Later u3 => m.cell x1
      have M4 := fun m : Later u3 => m.cell x2
      have M5 := fun m : Later u3 => m.cell x3
      have IN := Lib.hid (fun v => In_any 0 0 4 4 3 1 v)
      rw [show inB 0 0 4 4 3 1 = true by decide] at IN
      go_wp2_with fail
      refine region_later (by kernel_rfl) (by kernel_rfl) ?_
      (go_big_quiet_want; go_big_quiet_op; go_big_quiet_on)
      (go_big_quiet_want; go_big_quiet_op; go_big_quiet_on)
      (go_big_quiet_want; go_big_quiet_op; go_big_quiet_on)
      (go_big_quiet_want; go_big_quiet_op; go_big_quiet_on)
      (go_big_quiet_want; go_big_quiet_op; go_big_quiet_on)
      (go_big_quiet_want; go_big_quiet_op; go_big_quiet_call (exact later_of (IN.out _)))
      (go_big_quiet_want; go_big_quiet_op; go_big_quiet_on)
      refine wpQuiet_nil ?_
      refine later_end ?_
      intro m
      have HP5 := Lib.hid (HP4.out.later m.below)
      have HB5 := Lib.hid (HB4.out.trans (m.below.mono (by have := HP4.out.2.2.2.2.1; have := HP4.out.2.2.2.1; omega)))
      clear HP4 HB4 M0 M1 M2 M3 M4 M5 IN x0 x1 x2 x3 r8 r9 q8 q9 XB3 XB
      generalize m.wd = u5 at *
      clear m
      have H6 : Hid (PI v4 u5 (kp + 1) kp B B [(3, 4), (3, 1)] [[(0, 1), (2, 1), (2, 4)]]) := Lib.hid ⟨f, _, vo, _, HP5.out, HF.out, HB5.out⟩
      clear HP5 HB5 HF
      go_wp2
      go_roundw
      case rel => exact ⟨5, by omega, by omega, by go_num, Lib.hid H6.out⟩
      case measure => simp [intOf] <;> omega
    · obtain ⟨f, va, vo, pb, hp, hf, hbl⟩ := HI.out
      have HP : Hid (PS wr (kp + 1) kp B [(3, 4), (3, 1)] f va vo pb) := Lib.hid hp
      have HF : Hid (f.map (·.2) = [[(0, 1), (2, 1), (2, 4)]]) := Lib.hid hf
      have HB := Lib.hid hbl
      clear HI hp hf hbl hk1 hk2
      obtain ⟨a, cap, hva⟩ : ∃ a cap, va = .slice a 2 cap := own_slice HP.out.2.2.2.2.2.2.2.1
      have hfl : f.length = 1 := by have := congrArg List.length HF.out; simpa using this
      go_wp2_with fail
      refine (finY_any [(3, 4), (3, 1)] f _ vo pb (kp + 1) kp B B wr hkk (Nat.le_refl _) HP.out (by decide) (by omega)).mono ?_
      rintro e u6 ⟨rfl, vo', hp6, hb6⟩
      obtain ⟨a2, cap2, hvo⟩ : ∃ a cap, vo' = .slice a 2 cap := by have h := own_slice hp6.2.2.2.2.2.2.2.2.1; rw [List.length_append, hfl] at h; exact h
      subst hvo
      have cQ := cell_of_one hp6.2.2.2.2.2.2.1
      have fQ := free_of_one hp6.2.2.2.2.2.2.1
      have HR := Lib.hid (hp6.parts (.slice a2 2 cap2))
      have HS := Lib.hid ((AB4.out.trans ((HB.out.trans hb6).mono (by omega))).setCell (p := ⟨B, 0, none⟩) (by show w.heap.size ≤ B; omega) (.slice a2 2 cap2))
      have HM : Hid ((f ++ [(va, [(3, 4), (3, 1)])]).map (fun q : Value × List (Int × Int) => q.2) = [[(0, 1), (2, 1), (2, 4)], [(3, 4), (3, 1)]]) := Lib.hid (by rw [List.map_append, HF.out]; rfl)
      have cQ2 := World.cell?_setCell_same u6 ⟨B, 0, none⟩ (.slice a2 2 cap2) cQ
      clear hp6 hb6 HP HB HF hfl X4 Q4 AB4
      go_wp2
      exact bodyPost_ret (v := .slice a2 2 cap2) (by simp [results, Try.results24, go_sem, cQ2]) rfl ⟨_, rfl, by rw [← HM.out]; exact HR.out, HS.out⟩
end Go.Proofs.Ytpdiojndfckmfaa
