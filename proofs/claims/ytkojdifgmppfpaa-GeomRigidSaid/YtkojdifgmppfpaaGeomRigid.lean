/- GeomRigid returns true for all five points: the walk. -/
import Derived.Test.YtkojdifgmppfpaaGeoV
namespace Go.Proofs.Ytkojdifgmppfpaa
open Go.RowKit
open Num Geo
set_option linter.unusedVariables false
theorem rn_cases (x y : Int) : (Rn x y ∧ decide (x < -1048576) = false ∧ decide (1048576 < x) = false ∧ decide (y < -1048576) = false ∧ decide (1048576 < y) = false) ∨
    (¬ Rn x y ∧ (decide (x < -1048576) = true ∨ (decide (x < -1048576) = false ∧ decide (1048576 < x) = true) ∨ (decide (x < -1048576) = false ∧ decide (1048576 < x) = false ∧ decide (y < -1048576) = true) ∨ (decide (x < -1048576) = false ∧ decide (1048576 < x) = false ∧ decide (y < -1048576) = false ∧ decide (1048576 < y) = true))) := by
  unfold Rn; simp; omega
/-- the j-th of five numbers -/
def fX (a b c d u : Int) : Nat → Int
  | 0 => a | 1 => b | 2 => c | 3 => d | _ => u
theorem rn_near {x y : Int} (h : Rn x y) : Nr x y := by unfold Rn at h; unfold Nr; omega
theorem rn_moved {x y ux uy : Int} (h : Rn x y) (h' : Rn ux uy) : Nr (x + ux) (y + uy) := by unfold Rn at h h'; unfold Nr; omega
theorem rn_turned {x y : Int} (h : Rn x y) : Nr (-y) x := by unfold Rn at h; unfold Nr; omega
set_option maxRecDepth 100000 in
set_option maxHeartbeats 8000000 in
theorem rigid_any (ax ay bx by_ cx cy dx dy ux uy : Int) (w : World) : Calls Try.prog 9 #[.agg #[.int .i64 ax, .int .i64 ay], .agg #[.int .i64 bx, .int .i64 by_], .agg #[.int .i64 cx, .int .i64 cy], .agg #[.int .i64 dx, .int .i64 dy], .agg #[.int .i64 ux, .int .i64 uy]] w fun e w' => e = .returned (.bool true) ∧ Below w.heap.size w w' := by
  have HB := Lib.hid (B5_has w ax ay bx by_ cx cy dx dy ux uy)
  have HSZ := Lib.hid (B5_size w ax ay bx by_ cx cy dx dy ux uy)
  unfold B5 B4 at HB HSZ
  go_enter Try.func9, Try.ntmps9
  go_upto_region 1 with fail
  generalize ((((w.alloc (.cells #[.int .i64 ax, .int .i64 ay] 23)).alloc (.cells #[.int .i64 bx, .int .i64 by_] 23)).alloc (.cells #[.int .i64 cx, .int .i64 cy] 23)).alloc (.cells #[.int .i64 dx, .int .i64 dy] 23)).alloc (.cells #[.int .i64 ux, .int .i64 uy] 23) = u0 at *
  obtain ⟨⟨c0, c1, c2, c3, c4, c5, c6, c7, -⟩, c8, c9⟩ := HB.out
  go_wp2_with fail
  have HA : Hid (∀ j, j < 5 → (u0.alloc (.cells #[.int .i64 ax, .int .i64 ay, .int .i64 bx, .int .i64 by_, .int .i64 cx, .int .i64 cy, .int .i64 dx, .int .i64 dy, .int .i64 ux, .int .i64 uy] 23)).cell? ⟨u0.heap.size, j * 2, none⟩ = some (.int .i64 (fX ax bx cx dx ux j)) ∧ (u0.alloc (.cells #[.int .i64 ax, .int .i64 ay, .int .i64 bx, .int .i64 by_, .int .i64 cx, .int .i64 cy, .int .i64 dx, .int .i64 dy, .int .i64 ux, .int .i64 uy] 23)).cell? ⟨u0.heap.size, j * 2 + 1, none⟩ = some (.int .i64 (fX ay by_ cy dy uy j))) := by
    apply Lib.hid
    intro j hj
    match j, hj with
    | 0, _ => exact ⟨by simp [fX], by simp [fX]⟩
    | 1, _ => exact ⟨by simp [fX], by simp [fX]⟩
    | 2, _ => exact ⟨by simp [fX], by simp [fX]⟩
    | 3, _ => exact ⟨by simp [fX], by simp [fX]⟩
    | 4, _ => exact ⟨by simp [fX], by simp [fX]⟩
  have H1 := Lib.hid (HB.out.later (below_al u0 (.cells #[.int .i64 ax, .int .i64 ay, .int .i64 bx, .int .i64 by_, .int .i64 cx, .int .i64 cy, .int .i64 dx, .int .i64 dy, .int .i64 ux, .int .i64 uy] 23)))
  have HS1 : Hid (w.heap.size + 1 + 1 + 1 + 1 + 1 < (u0.alloc (.cells #[.int .i64 ax, .int .i64 ay, .int .i64 bx, .int .i64 by_, .int .i64 cx, .int .i64 cy, .int .i64 dx, .int .i64 dy, .int .i64 ux, .int .i64 uy] 23)).heap.size) := Lib.hid (by simp [HSZ.out])
  clear c0 c1 c2 c3 c4 c5 c6 c7 c8 c9 HB HSZ
  generalize u0.alloc (.cells #[.int .i64 ax, .int .i64 ay, .int .i64 bx, .int .i64 by_, .int .i64 cx, .int .i64 cy, .int .i64 dx, .int .i64 dy, .int .i64 ux, .int .i64 uy] 23) = u1 at *
  generalize u0.heap.size = B at *
  go_loop [12] (fun i => ∃ k : Nat, k ≤ 5 ∧ i = .int .i64 k ∧ Hid (∀ j, j < k → Rn (fX ax bx cx dx ux j) (fX ay by_ cy dy uy j))) (fun i => 5 - (intOf i).toNat)
  case atStart => exact ⟨0, by omega, rfl, Lib.hid fun j hj => by omega⟩
  case round =>
    obtain ⟨k, hk, rfl, HR⟩ := hrel
    by_cases hlt : k < 5
    · obtain ⟨x1, x2⟩ := HA.out k hlt
      have q1 : (0 : Int) ≤ (k : Int) := by omega
      have q2 : (k : Int) < 5 := by omega
      have q3 : decide ((k : Int) < 5) = true := by simp; omega
      have NX : Hid (Rn (fX ax bx cx dx ux k) (fX ay by_ cy dy uy k) → ∀ j, j < k + 1 → Rn (fX ax bx cx dx ux j) (fX ay by_ cy dy uy j)) := Lib.hid fun h j hj => if e : j = k then e ▸ h else HR.out j (by omega)
      generalize fX ax bx cx dx ux k = x at *
      generalize fX ay by_ cy dy uy k = y at *
      rcases rn_cases x y with ⟨hr, d1, d2, d3, d4⟩ | ⟨hr, hd⟩
      · have NN := Lib.hid (NX.out hr)
        clear hr NX HR
        go_wp2
        go_round
        case rel => exact ⟨k + 1, by omega, by go_num, NN⟩
        case measure => simp [intOf]; omega
      · clear hr NX HR
        rcases hd with d1 | ⟨d1, d2⟩ | ⟨d1, d2, d3⟩ | ⟨d1, d2, d3, d4⟩
        all_goals
          go_wp2_with fail
          refine (awake08 _).mono ?_
          rintro e w9 ⟨rfl, hb⟩
          have G2 := Lib.hid (below_on H1.out.1.2.2.2.2.2.2.2.2 hb)
          clear hb
          go_wp2
          go_ret
          exact ⟨rfl, G2.out⟩
    · obtain rfl : k = 5 := by omega
      obtain ⟨ra, rb, rc, rd, ru⟩ : Rn ax ay ∧ Rn bx by_ ∧ Rn cx cy ∧ Rn dx dy ∧ Rn ux uy := ⟨HR.out 0 (by omega), HR.out 1 (by omega), HR.out 2 (by omega), HR.out 3 (by omega), HR.out 4 (by omega)⟩
      have n3 := (near3_iff _ _ _ _ _ _).mpr ⟨rn_near ra, rn_near rb, rn_near rc⟩
      have n4 := (near4_iff _ _ _ _ _ _ _ _).mpr ⟨rn_near ra, rn_near rb, rn_near rc, rn_near rd⟩
      have m3 := (near3_iff _ _ _ _ _ _).mpr ⟨rn_moved ra ru, rn_moved rb ru, rn_moved rc ru⟩
      have m4 := (near4_iff _ _ _ _ _ _ _ _).mpr ⟨rn_moved ra ru, rn_moved rb ru, rn_moved rc ru, rn_moved rd ru⟩
      have t3 := (near3_iff _ _ _ _ _ _).mpr ⟨rn_turned ra, rn_turned rb, rn_turned rc⟩
      have t4 := (near4_iff _ _ _ _ _ _ _ _).mpr ⟨rn_turned ra, rn_turned rb, rn_turned rc, rn_turned rd⟩
      have KM := kept_moved ax ay bx by_ cx cy dx dy ux uy
      have KT := kept_turned ax ay bx by_ cx cy dx dy
      have TW := Twice_any ax ay bx by_ cx cy
      have TWm := Twice_any (ax + ux) (ay + uy) (bx + ux) (by_ + uy) (cx + ux) (cy + uy)
      have TWt := Twice_any (-ay) ax (-by_) bx (-cy) cx
      rw [tw_kept n3 m3 KM] at TWm
      rw [tw_kept n3 t3 KT] at TWt
      have SD := Side_any ax ay bx by_ cx cy
      have SDt := Side_any (-ay) ax (-by_) bx (-cy) cx
      rw [tw_kept n3 t3 KT] at SDt
      have MT := Meet_any ax ay bx by_ cx cy dx dy
      have MTm := Meet_any (ax + ux) (ay + uy) (bx + ux) (by_ + uy) (cx + ux) (cy + uy) (dx + ux) (dy + uy)
      have MTt := Meet_any (-ay) ax (-by_) bx (-cy) cx (-dy) dx
      rw [mt_kept n4 m4 KM] at MTm
      rw [mt_kept n4 t4 KT] at MTt
      have ON := On_any ax ay bx by_ cx cy
      have ONm := On_any (ax + ux) (ay + uy) (bx + ux) (by_ + uy) (cx + ux) (cy + uy)
      have ONt := On_any (-ay) ax (-by_) bx (-cy) cx
      rw [on_kept n3 m3 KM.tw1 KM.dac] at ONm
      rw [on_kept n3 t3 KT.tw1 KT.dac] at ONt
      have DS := Dist_any ax ay bx by_ cx cy
      have DSm := Dist_any (ax + ux) (ay + uy) (bx + ux) (by_ + uy) (cx + ux) (cy + uy)
      have DSt := Dist_any (-ay) ax (-by_) bx (-cy) cx
      rw [(ds_kept n3 m3 KM).1, (ds_kept n3 m3 KM).2] at DSm
      rw [(ds_kept n3 t3 KT).1, (ds_kept n3 t3 KT).2] at DSt
      unfold DistOut at DS DSm DSt
      generalize sgn (twF ax ay bx by_ cx cy) = sg at *
      generalize twF ax ay bx by_ cx cy = tn at *
      generalize mtF ax ay bx by_ cx cy dx dy = mn at *
      generalize onF ax ay bx by_ cx cy = on at *
      generalize dsN ax ay bx by_ cx cy = fn at *
      generalize dsD ax ay bx by_ cx cy = fd at *
      have HTW := Lib.hid TW
      have HTWm := Lib.hid TWm
      have HTWt := Lib.hid TWt
      have HSD := Lib.hid SD
      have HSDt := Lib.hid SDt
      have HMT := Lib.hid MT
      have HMTm := Lib.hid MTm
      have HMTt := Lib.hid MTt
      have HON := Lib.hid ON
      have HONm := Lib.hid ONm
      have HONt := Lib.hid ONt
      have HDS := Lib.hid DS
      have HDSm := Lib.hid DSm
      have HDSt := Lib.hid DSt
      have HMVa := Lib.hid (fun v => moved_any ax ay ux uy v ra ru)
      have HMVb := Lib.hid (fun v => moved_any bx by_ ux uy v rb ru)
      have HMVc := Lib.hid (fun v => moved_any cx cy ux uy v rc ru)
      have HMVd := Lib.hid (fun v => moved_any dx dy ux uy v rd ru)
      have HTNa := Lib.hid (fun v => turned_any ax ay v ra)
      have HTNb := Lib.hid (fun v => turned_any bx by_ v rb)
      have HTNc := Lib.hid (fun v => turned_any cx cy v rc)
      have HTNd := Lib.hid (fun v => turned_any dx dy v rd)
      clear n3 n4 m3 m4 t3 t4 KM KT HR HA hk hlt ra rb rc rd ru
      clear TW TWm TWt SD SDt MT MTm MTt ON ONm ONt DS DSm DSt
      go_wp2_with fail
      obtain ⟨⟨c0, c1, c2, c3, c4, c5, c6, c7, -⟩, c8, c9⟩ := H1.out
      refine region_free (P := Try.prog) 17 18 177 32 (.cells #[.int .i64 0, .int .i64 0] 32) (by kernel_rfl) (by decide) (by kernel_rfl) ?_ (by kernel_rfl) (by kernel_rfl) alloc_frac ?_
      · rfl
      apply Exists.intro
      refine ⟨?hq, ?hfin⟩
      case hq =>
        intro X hne
        haveI := hne
        simp only [List.take_succ_cons, List.take_zero]
        have L0 := fun m : LaterX u1 X => m.cell c0
        have L1 := fun m : LaterX u1 X => m.cell c1
        have L2 := fun m : LaterX u1 X => m.cell c2
        have L3 := fun m : LaterX u1 X => m.cell c3
        have L4 := fun m : LaterX u1 X => m.cell c4
        have L5 := fun m : LaterX u1 X => m.cell c5
        have L6 := fun m : LaterX u1 X => m.cell c6
        have L7 := fun m : LaterX u1 X => m.cell c7
        (go_big_quiet_want; go_big_quiet_op; go_big_quiet_on)
        (go_big_quiet_want; go_big_quiet_op; go_big_quiet_on)
        (go_big_quiet_want; go_big_quiet_op; go_big_quiet_on)
        (go_big_quiet_want; go_big_quiet_op; go_big_quiet_call (exact laterX_of (HTW.out _)))
        (go_big_quiet_want; go_big_quiet_op; go_big_quiet_on)
        (go_big_quiet_want; go_big_quiet_op; go_big_quiet_on)
        (go_big_quiet_want; go_big_quiet_op; go_big_quiet_on)
        (go_big_quiet_want; go_big_quiet_op; go_big_quiet_on)
        (go_big_quiet_want; go_big_quiet_op; go_big_quiet_call (exact laterX_of (HMT.out _)))
        (go_big_quiet_want; go_big_quiet_op; go_big_quiet_on)
        (go_big_quiet_want; go_big_quiet_op; go_big_quiet_on)
        (go_big_quiet_want; go_big_quiet_op; go_big_quiet_on)
        (go_big_quiet_want; go_big_quiet_op; go_big_quiet_call (exact laterX_of (HON.out _)))
        (go_big_quiet_want; go_big_quiet_op; go_big_quiet_on)
        (go_big_quiet_want; go_big_quiet_op; go_big_quiet_on)
        (go_big_quiet_want; go_big_quiet_op; go_big_quiet_on)
        (go_big_quiet_want; go_big_quiet_op; go_big_quiet_call (exact laterX_of (HDS.out _)))
        exact wpQuiet_nil rfl
      clear c0 c1 c2 c3 c4 c5 c6 c7 c8 c9 HTW HMT HON HDS
      intro G w1 hb hG hd
      simp only [List.take_succ_cons, List.take_zero, List.drop_succ_cons, List.drop_zero, ptrs, putsL, Act.put, List.setIfInBounds_toArray, List.set_cons_succ, List.set_cons_zero]
      obtain ⟨g1, g2, g3⟩ := hG 17 (by decide) (by decide)
      generalize G 17 = g at *
      have BG := Lib.hid (Bx.of_block g3)
      have H2 := Lib.hid (H1.out.later hb)
      have HG := Lib.hid (show w.heap.size + 1 + 1 + 1 + 1 < g by have := HS1.out; omega)
      have HG2 := Lib.hid g2
      clear hG hd hb g1 g2 g3 H1 HS1 G
      obtain ⟨z0, z1, z2⟩ := BG.out
      go_wp2_with fail
      have H3 := Lib.hid (((H2.out.set HG.out 0 (.int .i64 fn)).set HG.out 1 (.int .i64 fd)))
      have BG3 := Lib.hid (BG.out.same fn fd)
      have HG3 : Hid (g < ((w1.setCell ⟨g, 0, none⟩ (.int .i64 fn)).setCell ⟨g, 1, none⟩ (.int .i64 fd)).heap.size) := Lib.hid BG3.out.lt
      clear z0 z1 z2 BG H2 HG2
      generalize (w1.setCell ⟨g, 0, none⟩ (.int .i64 fn)).setCell ⟨g, 1, none⟩ (.int .i64 fd) = u2 at *
      obtain ⟨⟨c0, c1, c2, c3, c4, c5, c6, c7, -⟩, c8, c9⟩ := H3.out
      refine region_free (P := Try.prog) 12 16 177 23 (.cells #[.int .i64 0, .int .i64 0] 23) (by kernel_rfl) (by decide) (by kernel_rfl) ?_ (by kernel_rfl) (by kernel_rfl) alloc_pt ?_
      · rfl
      apply Exists.intro
      refine ⟨?hq2, ?hfin2⟩
      case hq2 =>
        intro X hne
        haveI := hne
        simp only [List.take_succ_cons, List.take_zero]
        have L0 := fun m : LaterX u2 X => m.cell c0
        have L1 := fun m : LaterX u2 X => m.cell c1
        have L2 := fun m : LaterX u2 X => m.cell c2
        have L3 := fun m : LaterX u2 X => m.cell c3
        have L4 := fun m : LaterX u2 X => m.cell c4
        have L5 := fun m : LaterX u2 X => m.cell c5
        have L6 := fun m : LaterX u2 X => m.cell c6
        have L7 := fun m : LaterX u2 X => m.cell c7
        have L8 := fun m : LaterX u2 X => m.cell c8
        have L9 := fun m : LaterX u2 X => m.cell c9
        (go_big_quiet_want; go_big_quiet_op; go_big_quiet_on)
        (go_big_quiet_want; go_big_quiet_op; go_big_quiet_on)
        (go_big_quiet_want; go_big_quiet_op; go_big_quiet_call (exact laterX_of (HMVa.out _)))
        (go_big_quiet_want; go_big_quiet_op; go_big_quiet_on)
        (go_big_quiet_want; go_big_quiet_op; go_big_quiet_on)
        (go_big_quiet_want; go_big_quiet_op; go_big_quiet_call (exact laterX_of (HMVb.out _)))
        (go_big_quiet_want; go_big_quiet_op; go_big_quiet_on)
        (go_big_quiet_want; go_big_quiet_op; go_big_quiet_on)
        (go_big_quiet_want; go_big_quiet_op; go_big_quiet_call (exact laterX_of (HMVc.out _)))
        (go_big_quiet_want; go_big_quiet_op; go_big_quiet_on)
        (go_big_quiet_want; go_big_quiet_op; go_big_quiet_on)
        (go_big_quiet_want; go_big_quiet_op; go_big_quiet_call (exact laterX_of (HMVd.out _)))
        exact wpQuiet_nil rfl
      clear c0 c1 c2 c3 c4 c5 c6 c7 c8 c9
      intro G w2 hb hG hd
      simp only [List.take_succ_cons, List.take_zero, List.drop_succ_cons, List.drop_zero, ptrs, putsL, Act.put, List.setIfInBounds_toArray, List.set_cons_succ, List.set_cons_zero]
      obtain ⟨a1, a2, a3⟩ := hG 12 (by decide) (by decide)
      obtain ⟨b1, b2, b3⟩ := hG 13 (by decide) (by decide)
      obtain ⟨e1, e2, e3⟩ := hG 14 (by decide) (by decide)
      obtain ⟨f1, f2, f3⟩ := hG 15 (by decide) (by decide)
      have q1 := hd 12 13 (by decide) (by decide) (by decide) (by decide) (by decide)
      have q2 := hd 12 14 (by decide) (by decide) (by decide) (by decide) (by decide)
      have q3 := hd 12 15 (by decide) (by decide) (by decide) (by decide) (by decide)
      have q4 := hd 13 14 (by decide) (by decide) (by decide) (by decide) (by decide)
      have q5 := hd 13 15 (by decide) (by decide) (by decide) (by decide) (by decide)
      have q6 := hd 14 15 (by decide) (by decide) (by decide) (by decide) (by decide)
      generalize G 12 = p1 at *
      generalize G 13 = p2 at *
      generalize G 14 = p3 at *
      generalize G 15 = p4 at *
      have hgl := HG3.out
      have hgg := HG.out
      have R := Lib.hid (show R4 w w2 ax ay bx by_ cx cy dx dy ux uy g p1 p2 p3 p4 fn fd 0 0 0 0 0 0 0 0 from
        ⟨H3.out.later hb, BG3.out.later hb, Bx.of_block a3, Bx.of_block b3, Bx.of_block e3, Bx.of_block f3, by omega, by omega, by omega, by omega, by omega, by omega, by omega, by omega, q1, q2, q3, q4, q5, q6⟩)
      clear hG hd hb G a1 a2 a3 b1 b2 b3 e1 e2 e3 f1 f2 f3 H3 BG3 HG3 HG hgl hgg
      obtain ⟨-, -, ⟨s0, s1, s2⟩, ⟨s3, s4, s5⟩, ⟨s6, s7, s8⟩, ⟨s9, s10, s11⟩, -, -, -, -, n1, n2, n3, n4, -⟩ := R.out
      go_wp2_with fail
      have R2 := Lib.hid (R.out.store (ax + ux) (ay + uy) (bx + ux) (by_ + uy) (cx + ux) (cy + uy) (dx + ux) (dy + uy))
      clear s0 s1 s2 s3 s4 s5 s6 s7 s8 s9 s10 s11 n1 n2 n3 n4 q1 q2 q3 q4 q5 q6 R
      obtain ⟨u3, hu3⟩ : ∃ u3, u3 = ((((((((w2.setCell ⟨p1, 0, none⟩ (.int .i64 (ax + ux))).setCell ⟨p1, 1, none⟩ (.int .i64 (ay + uy))).setCell ⟨p2, 0, none⟩ (.int .i64 (bx + ux))).setCell ⟨p2, 1, none⟩ (.int .i64 (by_ + uy))).setCell ⟨p3, 0, none⟩ (.int .i64 (cx + ux))).setCell ⟨p3, 1, none⟩ (.int .i64 (cy + uy))).setCell ⟨p4, 0, none⟩ (.int .i64 (dx + ux))).setCell ⟨p4, 1, none⟩ (.int .i64 (dy + uy))) := ⟨_, rfl⟩
      rw [← hu3] at R2 ⊢
      clear hu3
      have t1 : (tn != tn) = false := by simp
      have t2 : (mn != mn) = false := by simp
      have t3 : (on != on) = false := by simp
      have t4 : (fn != fn) = false := by simp
      have t5 : (fd != fd) = false := by simp
      have t6 : (fn == fn) = true := by simp
      have t7 : (fd == fd) = true := by simp
      have t8 : (tn == tn) = true := by simp
      have t9 : (mn == mn) = true := by simp
      have t10 : (on == on) = true := by simp
      have t11 : (sg == sg) = true := by simp
      obtain ⟨-, ⟨g0, g1, -⟩, ⟨s0, s1, -⟩, ⟨s3, s4, -⟩, ⟨s6, s7, -⟩, ⟨s9, s10, -⟩, -⟩ := R2.out
      have K0 := fun m : Later u3 => m.cell s0
      have K1 := fun m : Later u3 => m.cell s1
      have K2 := fun m : Later u3 => m.cell s3
      have K3 := fun m : Later u3 => m.cell s4
      have K4 := fun m : Later u3 => m.cell s6
      have K5 := fun m : Later u3 => m.cell s7
      have K6 := fun m : Later u3 => m.cell s9
      have K7 := fun m : Later u3 => m.cell s10
      have K8 := fun m : Later u3 => m.cell g0
      have K9 := fun m : Later u3 => m.cell g1
      refine region_later (by kernel_rfl) (by kernel_rfl) ?_
      (go_big_quiet_want; go_big_quiet_op; go_big_quiet_on)
      (go_big_quiet_want; go_big_quiet_op; go_big_quiet_on)
      (go_big_quiet_want; go_big_quiet_op; go_big_quiet_on)
      (go_big_quiet_want; go_big_quiet_op; go_big_quiet_call (exact later_of (HTWm.out _)))
      (go_big_quiet_want; go_big_quiet_op; go_big_quiet_on)
      (go_big_quiet_want; go_big_quiet_op; go_big_quiet_on)
      (go_big_quiet_want; go_big_quiet_op; go_big_quiet_on)
      (go_big_quiet_want; go_big_quiet_op; go_big_quiet_on)
      (go_big_quiet_want; go_big_quiet_op; go_big_quiet_on)
      (go_big_quiet_want; go_big_quiet_op; go_big_quiet_on)
      (go_big_quiet_want; go_big_quiet_op; go_big_quiet_on)
      (go_big_quiet_want; go_big_quiet_op; go_big_quiet_call (exact later_of (HMTm.out _)))
      (go_big_quiet_want; go_big_quiet_op; go_big_quiet_on)
      (go_big_quiet_want; go_big_quiet_op; go_big_quiet_on)
      (go_big_quiet_want; go_big_quiet_op; go_big_quiet_on)
      (go_big_quiet_want; go_big_quiet_op; go_big_quiet_on)
      (go_big_quiet_want; go_big_quiet_op; go_big_quiet_on)
      (go_big_quiet_want; go_big_quiet_op; go_big_quiet_on)
      (go_big_quiet_want; go_big_quiet_op; go_big_quiet_on)
      (go_big_quiet_want; go_big_quiet_op; go_big_quiet_call (exact later_of (HONm.out _)))
      (go_big_quiet_want; go_big_quiet_op; go_big_quiet_on)
      (go_big_quiet_want; go_big_quiet_op; go_big_quiet_on)
      (go_big_quiet_want; go_big_quiet_op; go_big_quiet_on)
      (go_big_quiet_want; go_big_quiet_op; go_big_quiet_on)
      (go_big_quiet_want; go_big_quiet_op; go_big_quiet_on)
      (go_big_quiet_want; go_big_quiet_op; go_big_quiet_on)
      (go_big_quiet_want; go_big_quiet_op; go_big_quiet_on)
      (go_big_quiet_want; go_big_quiet_op; go_big_quiet_call (exact later_of (HDSm.out _)))
      (go_big_quiet_want; go_big_quiet_op; go_big_quiet_on)
      (go_big_quiet_want; go_big_quiet_op; go_big_quiet_on)
      (go_big_quiet_want; go_big_quiet_op; go_big_quiet_on)
      refine wpQuiet_nil ?_
      refine later_end ?_
      intro kw
      have R3 := Lib.hid (R2.out.later kw.below)
      clear K0 K1 K2 K3 K4 K5 K6 K7 K8 K9 g0 g1 s0 s1 s3 s4 s6 s7 s9 s10 R2 HTWm HMTm HONm HDSm
      generalize kw.wd = u4 at *
      clear kw
      obtain ⟨⟨⟨c0, c1, c2, c3, c4, c5, c6, c7, -⟩, c8, c9⟩, -⟩ := R3.out
      go_wp2_with fail
      refine region_free (P := Try.prog) 8 8 177 23 (.cells #[.int .i64 0, .int .i64 0] 23) (by kernel_rfl) (by decide) (by kernel_rfl) ?_ (by kernel_rfl) (by kernel_rfl) alloc_pt ?_
      · rfl
      apply Exists.intro
      refine ⟨?hq3, ?hfin3⟩
      case hq3 =>
        intro X hne
        haveI := hne
        simp only [List.take_succ_cons, List.take_zero]
        have L0 := fun m : LaterX u4 X => m.cell c0
        have L1 := fun m : LaterX u4 X => m.cell c1
        have L2 := fun m : LaterX u4 X => m.cell c2
        have L3 := fun m : LaterX u4 X => m.cell c3
        have L4 := fun m : LaterX u4 X => m.cell c4
        have L5 := fun m : LaterX u4 X => m.cell c5
        have L6 := fun m : LaterX u4 X => m.cell c6
        have L7 := fun m : LaterX u4 X => m.cell c7
        (go_big_quiet_want; go_big_quiet_op; go_big_quiet_on)
        (go_big_quiet_want; go_big_quiet_op; go_big_quiet_call (exact laterX_of (HTNa.out _)))
        (go_big_quiet_want; go_big_quiet_op; go_big_quiet_on)
        (go_big_quiet_want; go_big_quiet_op; go_big_quiet_call (exact laterX_of (HTNb.out _)))
        (go_big_quiet_want; go_big_quiet_op; go_big_quiet_on)
        (go_big_quiet_want; go_big_quiet_op; go_big_quiet_call (exact laterX_of (HTNc.out _)))
        (go_big_quiet_want; go_big_quiet_op; go_big_quiet_on)
        (go_big_quiet_want; go_big_quiet_op; go_big_quiet_call (exact laterX_of (HTNd.out _)))
        exact wpQuiet_nil rfl
      clear c0 c1 c2 c3 c4 c5 c6 c7 c8 c9 HTNa HTNb HTNc HTNd
      intro G w3 hb hG hd
      simp only [List.take_succ_cons, List.take_zero, List.drop_succ_cons, List.drop_zero, ptrs, putsL]
      have R4' := Lib.hid (R3.out.later hb)
      clear hb hG hd G R3
      obtain ⟨-, -, ⟨s0, s1, s2⟩, ⟨s3, s4, s5⟩, ⟨s6, s7, s8⟩, ⟨s9, s10, s11⟩, -, -, -, -, n1, n2, n3, n4, q1, q2, q3, q4, q5, q6⟩ := R4'.out
      go_wp2_with fail
      have R5 := Lib.hid (R4'.out.store (-ay) ax (-by_) bx (-cy) cx (-dy) dx)
      clear s0 s1 s2 s3 s4 s5 s6 s7 s8 s9 s10 s11 n1 n2 n3 n4 q1 q2 q3 q4 q5 q6 R4'
      obtain ⟨u5, hu5⟩ : ∃ u5, u5 = ((((((((w3.setCell ⟨p1, 0, none⟩ (.int .i64 (-ay))).setCell ⟨p1, 1, none⟩ (.int .i64 (ax))).setCell ⟨p2, 0, none⟩ (.int .i64 (-by_))).setCell ⟨p2, 1, none⟩ (.int .i64 (bx))).setCell ⟨p3, 0, none⟩ (.int .i64 (-cy))).setCell ⟨p3, 1, none⟩ (.int .i64 (cx))).setCell ⟨p4, 0, none⟩ (.int .i64 (-dy))).setCell ⟨p4, 1, none⟩ (.int .i64 (dx))) := ⟨_, rfl⟩
      rw [← hu5] at R5 ⊢
      clear hu5
      obtain ⟨⟨⟨c0, c1, c2, c3, c4, c5, c6, c7, -⟩, c8, c9⟩, ⟨g0, g1, -⟩, ⟨s0, s1, -⟩, ⟨s3, s4, -⟩, ⟨s6, s7, -⟩, ⟨s9, s10, -⟩, -⟩ := R5.out
      have K0 := fun m : Later u5 => m.cell s0
      have K1 := fun m : Later u5 => m.cell s1
      have K2 := fun m : Later u5 => m.cell s3
      have K3 := fun m : Later u5 => m.cell s4
      have K4 := fun m : Later u5 => m.cell s6
      have K5 := fun m : Later u5 => m.cell s7
      have K6 := fun m : Later u5 => m.cell s9
      have K7 := fun m : Later u5 => m.cell s10
      have K8 := fun m : Later u5 => m.cell g0
      have K9 := fun m : Later u5 => m.cell g1
      have M0 := fun m : Later u5 => m.cell c0
      have M1 := fun m : Later u5 => m.cell c1
      have M2 := fun m : Later u5 => m.cell c2
      have M3 := fun m : Later u5 => m.cell c3
      have M4 := fun m : Later u5 => m.cell c4
      have M5 := fun m : Later u5 => m.cell c5
      refine region_later (by kernel_rfl) (by kernel_rfl) ?_
      (go_big_quiet_want; go_big_quiet_op; go_big_quiet_on)
      (go_big_quiet_want; go_big_quiet_op; go_big_quiet_on)
      (go_big_quiet_want; go_big_quiet_op; go_big_quiet_on)
      (go_big_quiet_want; go_big_quiet_op; go_big_quiet_call (exact later_of (HTWt.out _)))
      (go_big_quiet_want; go_big_quiet_op; go_big_quiet_on)
      (go_big_quiet_want; go_big_quiet_op; go_big_quiet_on)
      (go_big_quiet_want; go_big_quiet_op; go_big_quiet_on)
      (go_big_quiet_want; go_big_quiet_op; go_big_quiet_on)
      (go_big_quiet_want; go_big_quiet_op; go_big_quiet_on)
      (go_big_quiet_want; go_big_quiet_op; go_big_quiet_on)
      (go_big_quiet_want; go_big_quiet_op; go_big_quiet_call (exact later_of (HSDt.out _)))
      (go_big_quiet_want; go_big_quiet_op; go_big_quiet_on)
      (go_big_quiet_want; go_big_quiet_op; go_big_quiet_on)
      (go_big_quiet_want; go_big_quiet_op; go_big_quiet_on)
      (go_big_quiet_want; go_big_quiet_op; go_big_quiet_call (exact later_of (HSD.out _)))
      (go_big_quiet_want; go_big_quiet_op; go_big_quiet_on)
      (go_big_quiet_want; go_big_quiet_op; go_big_quiet_on)
      (go_big_quiet_want; go_big_quiet_op; go_big_quiet_on)
      (go_big_quiet_want; go_big_quiet_op; go_big_quiet_on)
      (go_big_quiet_want; go_big_quiet_op; go_big_quiet_on)
      (go_big_quiet_want; go_big_quiet_op; go_big_quiet_on)
      (go_big_quiet_want; go_big_quiet_op; go_big_quiet_on)
      (go_big_quiet_want; go_big_quiet_op; go_big_quiet_call (exact later_of (HMTt.out _)))
      (go_big_quiet_want; go_big_quiet_op; go_big_quiet_on)
      (go_big_quiet_want; go_big_quiet_op; go_big_quiet_on)
      (go_big_quiet_want; go_big_quiet_op; go_big_quiet_on)
      (go_big_quiet_want; go_big_quiet_op; go_big_quiet_on)
      (go_big_quiet_want; go_big_quiet_op; go_big_quiet_on)
      (go_big_quiet_want; go_big_quiet_op; go_big_quiet_on)
      (go_big_quiet_want; go_big_quiet_op; go_big_quiet_on)
      (go_big_quiet_want; go_big_quiet_op; go_big_quiet_call (exact later_of (HONt.out _)))
      (go_big_quiet_want; go_big_quiet_op; go_big_quiet_on)
      (go_big_quiet_want; go_big_quiet_op; go_big_quiet_on)
      (go_big_quiet_want; go_big_quiet_op; go_big_quiet_on)
      (go_big_quiet_want; go_big_quiet_op; go_big_quiet_on)
      (go_big_quiet_want; go_big_quiet_op; go_big_quiet_on)
      (go_big_quiet_want; go_big_quiet_op; go_big_quiet_on)
      (go_big_quiet_want; go_big_quiet_op; go_big_quiet_on)
      (go_big_quiet_want; go_big_quiet_op; go_big_quiet_call (exact later_of (HDSt.out _)))
      (go_big_quiet_want; go_big_quiet_op; go_big_quiet_on)
      (go_big_quiet_want; go_big_quiet_op; go_big_quiet_on)
      (go_big_quiet_want; go_big_quiet_op; go_big_quiet_on)
      (go_big_quiet_want; go_big_quiet_op; go_big_quiet_on)
      (go_big_quiet_want; go_big_quiet_op; go_big_quiet_call (exact later_of (awake08 _)))
      (go_big_quiet_want; go_big_quiet_op; go_big_quiet_on)
      (go_big_quiet_want; go_big_quiet_op; go_big_quiet_on)
      refine wpQuiet_nil ?_
      refine later_end ?_
      intro kw
      have F := Lib.hid (R5.out.later kw.below).1.1.2.2.2.2.2.2.2.2
      clear K0 K1 K2 K3 K4 K5 K6 K7 K8 K9 M0 M1 M2 M3 M4 M5 g0 g1 s0 s1 s3 s4 s6 s7 s9 s10 c0 c1 c2 c3 c4 c5 c6 c7 c8 c9 R5
      generalize kw.wd = u6 at *
      go_wp2
      go_ret
      exact ⟨rfl, F.out⟩
end Go.Proofs.Ytkojdifgmppfpaa
