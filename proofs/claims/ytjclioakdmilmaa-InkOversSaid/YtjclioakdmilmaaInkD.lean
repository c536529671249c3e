/- The contract of the reference's Cells. (printed by mkrcells.py) -/
import Derived.Test.YtjclioakdmilmaaInkB
import Derived.Test.YtjclioakdmilmaaInkC
namespace Go.Proofs.Ytjclioakdmilmaa
open Go.RowKit
open Num Ink
set_option linter.unusedVariables false
theorem alloc_pt : ∀ o : Oper, o.op = .alloc 29 → ∀ (a : Act) (v : World), (execOp a.eval o).run Try.prog v = .ok (.value (.pointer (some ⟨v.heap.size, 0, none⟩))) (v.alloc (.cells #[.int .i64 0, .int .i64 0] 29)) := by
  intro o ho a v; simp [execOp, ho, go_sem]
theorem lit_ns (v : World) (l : List Int) (cs : Array Value) (t : TypeId) (hc : cs.toList = l.map (Value.int .i64)) : Ns (v.alloc (.cells cs t)) (v.alloc (.cells cs t)).heap.size (some ⟨v.heap.size, 0, none⟩) l := fun hn => by
  refine ⟨v.heap.size, 0, rfl, by simp, fun j hj => ?_⟩
  have e : (v.alloc (.cells cs t)).cell? ⟨v.heap.size, 0 + j, none⟩ = cs.toList[0 + j]? := by rw [Array.getElem?_toList]; simp
  rw [e, hc, Nat.zero_add, List.getElem?_map, List.getElem?_eq_getElem hj]; rfl
theorem nrL4 (ax ay bx by_ : Int) : nrL [ax, ay, bx, by_] = (nr ax ay && nr bx by_) := by unfold nrL nr; simp [Bool.and_assoc]
theorem prod_in2 {a b : Int} (h1 : -8192 ≤ a ∧ a ≤ 8192) (h2 : -8192 ≤ b ∧ b ≤ 8192) : -67108864 ≤ a * b ∧ a * b ≤ 67108864 := by
  have e1 : (a * b).natAbs ≤ 8192 * 8192 := by
    rw [Int.natAbs_mul]; exact Nat.mul_le_mul (by omega) (by omega)
  omega
set_option maxRecDepth 100000 in
set_option maxHeartbeats 8000000 in
theorem rCells_any (ax ay bx by_ : Int) (w : World) :
    Calls Try.prog 13 #[.agg #[.int .i64 ax, .int .i64 ay], .agg #[.int .i64 bx, .int .i64 by_]] w (PtsRet (cels ax ay bx by_) w) := by
  have HI1 := Lib.hid (nr_iff ax ay)
  have HI2 := Lib.hid (nr_iff bx by_)
  have HF := Lib.hid (fun h => cels_far (ax := ax) (ay := ay) (bx := bx) (by_ := by_) h)
  have HN := Lib.hid (fun h h' => cels_near (ax := ax) (ay := ay) (bx := bx) (by_ := by_) h h')
  have HS := Lib.hid (fun h => cels_same (ax := ax) (ay := ay) h)
  generalize hc : cels ax ay bx by_ = C at *
  have k1 := Bx.new w ax ay 29
  have s1 : (w.alloc (.cells #[.int .i64 ax, .int .i64 ay] 29)).heap.size = w.heap.size + 1 := by simp
  have b1 := below_al w (.cells #[.int .i64 ax, .int .i64 ay] 29)
  go_enter Try.func13, Try.ntmps13
  go_upto_region 1 with fail
  generalize w.alloc (.cells #[.int .i64 ax, .int .i64 ay] 29) = v1 at *
  have k2 := Bx.new v1 bx by_ 29
  have b2 := below_al v1 (.cells #[.int .i64 bx, .int .i64 by_] 29)
  rw [s1] at k2
  have K1 := Lib.hid (k1.later b2)
  have K2 := Lib.hid k2
  have G := Lib.hid (below_on b1 b2)
  clear k1 k2 b1 b2 s1
  generalize v1.alloc (.cells #[.int .i64 bx, .int .i64 by_] 29) = v2 at *
  obtain ⟨c0, c1, -⟩ := K1.out
  obtain ⟨c2, c3, -⟩ := K2.out
  go_wp2_with fail
  refine (rnear_any [ax, ay, bx, by_] _ 4 _ (by simp) (lit_ns v2 [ax, ay, bx, by_] #[.int .i64 ax, .int .i64 ay, .int .i64 bx, .int .i64 by_] 3 rfl)).mono ?_
  rintro e w1 ⟨rfl, hb⟩
  have hb3 := below_on (below_al v2 (.cells #[.int .i64 ax, .int .i64 ay, .int .i64 bx, .int .i64 by_] 3)) hb
  have K5 := Lib.hid (K1.out.later hb3)
  have K6 := Lib.hid (K2.out.later hb3)
  have G2 := Lib.hid (below_on G.out hb3)
  clear hb hb3 K1 K2 G c0 c1 c2 c3
  rw [nrL4]
  cases n1 : nr ax ay && nr bx by_
  · have hC : C = [] := HF.out (by simpa using n1)
    clear HF HN HS hc K5 K6
    subst hC
    go_wp2
    go_ret
    exact ⟨none, 0, rfl, ⟨fun h => absurd h (by simp), fun b o h => by cases h⟩, G2.out⟩
  obtain ⟨n1, n2⟩ : nr ax ay = true ∧ nr bx by_ = true := by simpa using n1
  obtain ⟨r1, r2, r3, r4⟩ := HI1.out.1 n1
  obtain ⟨r5, r6, r7, r8⟩ := HI2.out.1 n2
  have hC := HN.out n1 n2
  clear HF HN HI1 HI2
  obtain ⟨c0, c1, -⟩ := K5.out
  obtain ⟨c2, c3, -⟩ := K6.out
  have L0 := fun m : Later w1 => m.cell c0
  have L1 := fun m : Later w1 => m.cell c1
  have L2 := fun m : Later w1 => m.cell c2
  have L3 := fun m : Later w1 => m.cell c3
  go_wp2_with fail
  refine region_later (by kernel_rfl) (by kernel_rfl) ?_
  iterate 12 (go_big_quiet_want; go_big_quiet_op; go_big_quiet_on)
  refine wpQuiet_nil ?_
  refine later_end ?_
  intro m
  have K7 := Lib.hid (K5.out.later m.below)
  have K8 := Lib.hid (K6.out.later m.below)
  have G3 := Lib.hid (below_on G2.out m.below)
  clear L0 L1 L2 L3 c0 c1 c2 c3 K5 K6 G2
  generalize m.wd = w3 at *
  clear m
  obtain ⟨c0, c1, y1⟩ := K7.out
  obtain ⟨c2, c3, y2⟩ := K8.out
  clear y1 y2
  go_upto_region 4 with fail
  obtain ⟨dx, hdx⟩ : ∃ dx, dx = bx - ax := ⟨_, rfl⟩
  obtain ⟨dy, hdy⟩ : ∃ dy, dy = by_ - ay := ⟨_, rfl⟩
  rw [← hdx, ← hdy]
  have HDX := Lib.hid hdx
  have HDY := Lib.hid hdy
  have g1 : -8192 ≤ dx := by omega
  have g2 : dx ≤ 8192 := by omega
  have g3 : -8192 ≤ dy := by omega
  have g4 : dy ≤ 8192 := by omega
  clear hdx hdy
  go_cut [7] from 31 to 37 (fun x wc => x = .int .i64 (max (max dx (-dx)) (max dy (-dy))) ∧ wc = w3)
  case first =>
    clear hC HS hc
    have hm4 : (if -dy > (if dy > (if -dx > dx then -dx else dx) then dy else (if -dx > dx then -dx else dx)) then -dy else (if dy > (if -dx > dx then -dx else dx) then dy else (if -dx > dx then -dx else dx))) = max (max dx (-dx)) (max dy (-dy)) := by
      (repeat' split) <;> omega
    generalize max (max dx (-dx)) (max dy (-dy)) = N at *
    have HM4 := Lib.hid hm4
    clear hm4
    have E : Sem.run Try.prog (Builtin.max_ #[3, 3, 3, 3] 3 #[.int .i64 dx, .int .i64 (-dx), .int .i64 dy, .int .i64 (-dy)]) w3 = .ok (.int .i64 N) w3 := by
      refine Eq.trans ?_ (congrArg (fun z => Result.ok (Value.int .i64 z) w3) HM4.out)
      simp [go_sem, Builtin.max_, Builtin.max2]
    clear HM4
    go_wp2_with fail
    go_meet
    exact ⟨rfl, rfl⟩
  case rest =>
  obtain ⟨rfl, hwc⟩ := hcut
  have hwc := hwc.symm
  subst hwc
  have hst : stp ax ay bx by_ = max (max dx (-dx)) (max dy (-dy)) := by rw [HDX.out, HDY.out]; rfl
  have hwd : wide ax ay bx by_ = decide (max dy (-dy) ≤ max dx (-dx)) := by rw [HDX.out, HDY.out]; rfl
  obtain ⟨n, hn⟩ : ∃ n : Nat, max (max dx (-dx)) (max dy (-dy)) = (n : Int) := ⟨(max (max dx (-dx)) (max dy (-dy))).toNat, by omega⟩
  rw [hn] at hst ⊢
  by_cases hq : n = 0
  · subst hq
    have e1 := HDX.out
    have e2 := HDY.out
    obtain rfl : bx = ax := by omega
    obtain rfl : by_ = ay := by omega
    have hC2 : C = [(bx, by_)] := hc.symm.trans (HS.out n1)
    clear HS hc hC e1 e2 hn hst hwd
    subst hC2
    have X := Lib.hid (lit_pts w3 [(bx, by_)] #[.int .i64 bx, .int .i64 by_] rfl)
    have F := Lib.hid G3.out.size
    have G4 := Lib.hid (below_on G3.out (below_al w3 (.cells #[.int .i64 bx, .int .i64 by_] 29)))
    go_wp2
    go_ret
    exact ⟨some ⟨w3.heap.size, 0, none⟩, 1, rfl, ⟨X.out, fun b o h => by injection h with h; injection h with h1 h2; have := F.out; omega⟩, G4.out⟩
  clear HS hc
  rw [hst, Int.toNat_natCast] at hC
  have HCC := Lib.hid hC
  clear hC
  have hn0 : 0 < n := by omega
  have hn1 : n ≤ 8192 := by omega
  have hnz : ((n : Int) == 0) = false := by simp; omega
  have hU0 : ¬ (n : Int) = 0 := by omega
  obtain ⟨i0, hi, hz0, hz1, hz2⟩ := info_parts Try.infoPt
  have SZ : Hid (w.heap.size + 1 < w3.heap.size) := Lib.hid (cell_lt c2)
  have HST0 := Lib.hid hst
  have HWD := Lib.hid hwd
  have HN := Lib.hid hn
  clear hst hwd hn
  go_wp2_with fail
  go_loopw [9, 8] (fun i vv wr => ∃ k : Nat, k ≤ n + 1 ∧ i = .int .i64 k ∧ Hid (CRel w3 (celK ax ay bx by_ k) vv wr)) (fun i _ _ => n + 1 - (intOf i).toNat)
  case atStart => exact ⟨0, by omega, rfl, Lib.hid ⟨none, 0, rfl, World.ownsRow_nil _ _ _ _, Below.refl _ _⟩⟩
  case round =>
    obtain ⟨k, hk, rfl, HR⟩ := hrel
    by_cases hlt : k < n + 1
    · have hstep : celK ax ay bx by_ (k + 1) = celK ax ay bx by_ k ++ [celP ax ay bx by_ k] := rfl
      have hlt' : k ≤ n := by omega
      go_upto_region 11 with fail
      go_cut [55] from 47 to 55 (fun b wc => b = .bool (decide (max dy (-dy) ≤ max dx (-dx))) ∧ wc = wr)
      case first =>
        clear hstep HR HCC HWD HST0 HN
        go_wp2_with fail
        all_goals
          go_meet
          refine ⟨?_, rfl⟩
          congr 1
          rw [decide_eq_decide]
          omega
      case rest =>
      obtain ⟨rfl, hwc⟩ := hcut
      have hwc := hwc.symm
      subst hwc
      rw [← HWD.out]
      have hm : max (max dx (-dx)) (max dy (-dy)) = n := HN.out
      cases hw : wide ax ay bx by_
      · have hwb : max dx (-dx) < max dy (-dy) := by have := HWD.out; rw [hw] at this; simpa using this.symm
        have hun : max dy (-dy) = (n : Int) := by omega
        have hsg := sg_tdiv (d := dy) (n := n) (by omega) (by omega)
        have hs1 : sg dy = 1 ∨ sg dy = -1 := by unfold sg; split <;> simp
        have HP : celP ax ay bx by_ k = (ax + rnd (k * dx) n, ay + k * sg dy) := by unfold celP; rw [hw, HST0.out]; simp only [Bool.false_eq_true, if_false]; rw [← HDX.out, ← HDY.out]
        rw [HP] at hstep
        have hdn : dy = sg dy * n := hsg.2
        clear HP hsg HWD HST0 HN HCC hwb hun hm
        generalize sg dy = s at *
        have HST := Lib.hid hstep
        have hkl := celK_len ax ay bx by_ k
        generalize celK ax ay bx by_ k = l at *
        obtain ⟨a0, cap0, rfl, hown, hbl⟩ := HR.out
        have OW := Lib.hid hown
        have BL := Lib.hid hbl
        have HKL := Lib.hid hkl
        clear hown hbl HR hkl hstep
        have e2 : (k : Int) * s = k ∨ (k : Int) * s = -k := by rcases hs1 with h | h <;> rw [h] <;> omega
        have hks : -8192 ≤ (k : Int) * s ∧ (k : Int) * s ≤ 8192 := by omega
        have htd : ((k : Int) * dy).tdiv n = k * s := by rw [hdn, ← Int.mul_assoc]; exact Int.mul_tdiv_cancel _ hU0
        have p1 := prod_in2 (a := (k : Int)) (b := dy) (by omega) (by omega)
        have p2 := prod_in2 (a := (k : Int)) (b := dx) (by omega) (by omega)
        have RB := rnd_bound (n := dx) (k := (k : Int)) (d := (n : Int)) (M := 8192) (by omega) (by omega) (by omega)
        rw [Int.mul_comm dx] at RB
        have RR : Hid (∀ v : World, Calls Try.prog 30 #[.int .i64 ((k : Int) * dx), .int .i64 n] v fun e w' => e = .returned (.int .i64 (rnd ((k : Int) * dx) n)) ∧ Below v.heap.size v w') := Lib.hid (fun v => (rrounded_any ((k : Int) * dx) n v (by omega) (by omega) (by omega) (by omega)).mono fun e w' ⟨h1, h2⟩ => ⟨h1, h2 ▸ Below.refl _ _⟩)
        generalize rnd ((k : Int) * dx) n = q at *
        clear e2 hdn hs1 hw
        obtain ⟨x0, x1, -⟩ := K7.out.later BL.out
        go_wp2_with fail
        refine region_freeL (P := Try.prog) [0] 18 18 97 29 (.cells #[.int .i64 0, .int .i64 0] 29) (by kernel_rfl) (by decide) (by kernel_rfl) (fun _ _ _ _ _ h => h) ?_ (by kernel_rfl) (by kernel_rfl) alloc_pt ?_
        · rfl
        apply Exists.intro
        refine ⟨?hqt, ?hft⟩
        case hqt =>
          intro X' hne
          haveI := hne
          simp only [List.take_succ_cons, List.take_zero]
          have L0 := fun m' : LaterX wr X' => m'.cell x0
          have L1 := fun m' : LaterX wr X' => m'.cell x1
          (go_big_quiet_want; go_big_quiet_op; go_big_quiet_on)
          (go_big_quiet_want; go_big_quiet_op; go_big_quiet_on)
          (go_big_quiet_want; go_big_quiet_op; go_big_quiet_on)
          (go_big_quiet_want; go_big_quiet_op; go_big_quiet_on)
          (go_big_quiet_want; go_big_quiet_op; go_big_quiet_on)
          (go_big_quiet_want; go_big_quiet_op; go_big_quiet_on)
          (go_big_quiet_want; go_big_quiet_op; go_big_quiet_on)
          (go_big_quiet_want; go_big_quiet_op; go_big_quiet_call (exact laterX_of (RR.out _)))
          (go_big_quiet_want; go_big_quiet_op; go_big_quiet_on)
          (go_big_quiet_want; go_big_quiet_op; go_big_quiet_on)
          (go_big_quiet_want; go_big_quiet_op; go_big_quiet_on)
          (go_big_quiet_want; go_big_quiet_op; go_big_quiet_on)
          (go_big_quiet_want; go_big_quiet_op; go_big_quiet_on)
          (go_big_quiet_want; go_big_quiet_op; go_big_quiet_on)
          (go_big_quiet_want; go_big_quiet_op; go_big_quiet_on)
          (go_big_quiet_want; go_big_quiet_op; go_big_quiet_on)
          (go_big_quiet_want; go_big_quiet_op; go_big_quiet_on)
          (go_big_quiet_want; go_big_quiet_op; go_big_quiet_on)
          exact wpQuiet_nil rfl
        intro G w8 hb _ _
        simp only [List.take_succ_cons, List.take_zero, List.drop_succ_cons, List.drop_zero, ptrs, putsL]
        have OW2 := Lib.hid (own_on OW.out hb)
        have BL2 := Lib.hid (below_on BL.out hb)
        clear x0 x1 OW BL hb RR
        generalize (ax + q) = X at *
        generalize (ay + (k : Int) * s) = Y at *
        go_wp2_with (at_builtin; refine wpList_append_own _ rfl _ _ 24 rfl w3.heap.size 29 i0 (.agg #[.int .i64 0, .int .i64 0]) 2 16 Try.underlying24 hi hz0 hz1 hz2 rfl (by decide) _ _ _ rfl (OW2.out.alloc _) ⟨w8.heap.size, 0, none⟩ 1 1 [.int .i64 X, .int .i64 Y] rfl rfl ?t1 ?t2 ?t3 ?t4 ?t5 ?_)
        case t1 =>
          intro j u hj
          match j, hj with
          | 0, hj => simp at hj; subst hj; simp [Addr.add]
          | 1, hj => simp at hj; subst hj; simp [Addr.add]
        case t2 => intro u hu; simp at hu; rcases hu with rfl | rfl <;> rfl
        case t3 => have := HKL.out; unfold maxLen; omega
        case t4 => have := HKL.out; omega
        case t5 => have := BL2.out.size; simp; omega
        intro v' w9 hown hgrow _
        have hB6 := below_al w8 (.cells #[.int .i64 X, .int .i64 Y] 29)
        have HR2 := Lib.hid (CRel.push (p := (X, Y)) (own_on OW2.out hB6) (below_on BL2.out hB6) hgrow hown)
        rw [← HST.out] at HR2
        clear hB6 hgrow hown OW2 BL2 HKL
        go_wp2
        go_roundw
        case rel => exact ⟨k + 1, by omega, by go_num, HR2⟩
        case measure => simp [intOf] <;> omega
      · have hwb : max dy (-dy) ≤ max dx (-dx) := by have := HWD.out; rw [hw] at this; simpa using this.symm
        have hun : max dx (-dx) = (n : Int) := by omega
        have hsg := sg_tdiv (d := dx) (n := n) (by omega) (by omega)
        have hs1 : sg dx = 1 ∨ sg dx = -1 := by unfold sg; split <;> simp
        have HP : celP ax ay bx by_ k = (ax + k * sg dx, ay + rnd (k * dy) n) := by unfold celP; rw [hw, HST0.out]; simp only [if_true]; rw [← HDX.out, ← HDY.out]
        rw [HP] at hstep
        have hdn : dx = sg dx * n := hsg.2
        clear HP hsg HWD HST0 HN HCC hwb hun hm
        generalize sg dx = s at *
        have HST := Lib.hid hstep
        have hkl := celK_len ax ay bx by_ k
        generalize celK ax ay bx by_ k = l at *
        obtain ⟨a0, cap0, rfl, hown, hbl⟩ := HR.out
        have OW := Lib.hid hown
        have BL := Lib.hid hbl
        have HKL := Lib.hid hkl
        clear hown hbl HR hkl hstep
        have e2 : (k : Int) * s = k ∨ (k : Int) * s = -k := by rcases hs1 with h | h <;> rw [h] <;> omega
        have hks : -8192 ≤ (k : Int) * s ∧ (k : Int) * s ≤ 8192 := by omega
        have htd : ((k : Int) * dx).tdiv n = k * s := by rw [hdn, ← Int.mul_assoc]; exact Int.mul_tdiv_cancel _ hU0
        have p1 := prod_in2 (a := (k : Int)) (b := dx) (by omega) (by omega)
        have p2 := prod_in2 (a := (k : Int)) (b := dy) (by omega) (by omega)
        have RB := rnd_bound (n := dy) (k := (k : Int)) (d := (n : Int)) (M := 8192) (by omega) (by omega) (by omega)
        rw [Int.mul_comm dy] at RB
        have RR : Hid (∀ v : World, Calls Try.prog 30 #[.int .i64 ((k : Int) * dy), .int .i64 n] v fun e w' => e = .returned (.int .i64 (rnd ((k : Int) * dy) n)) ∧ Below v.heap.size v w') := Lib.hid (fun v => (rrounded_any ((k : Int) * dy) n v (by omega) (by omega) (by omega) (by omega)).mono fun e w' ⟨h1, h2⟩ => ⟨h1, h2 ▸ Below.refl _ _⟩)
        generalize rnd ((k : Int) * dy) n = q at *
        clear e2 hdn hs1 hw
        obtain ⟨x0, x1, -⟩ := K7.out.later BL.out
        go_wp2_with fail
        refine region_freeL (P := Try.prog) [0] 18 18 97 29 (.cells #[.int .i64 0, .int .i64 0] 29) (by kernel_rfl) (by decide) (by kernel_rfl) (fun _ _ _ _ _ h => h) ?_ (by kernel_rfl) (by kernel_rfl) alloc_pt ?_
        · rfl
        apply Exists.intro
        refine ⟨?hqc, ?hfc⟩
        case hqc =>
          intro X' hne
          haveI := hne
          simp only [List.take_succ_cons, List.take_zero]
          have L0 := fun m' : LaterX wr X' => m'.cell x0
          have L1 := fun m' : LaterX wr X' => m'.cell x1
          (go_big_quiet_want; go_big_quiet_op; go_big_quiet_on)
          (go_big_quiet_want; go_big_quiet_op; go_big_quiet_on)
          (go_big_quiet_want; go_big_quiet_op; go_big_quiet_on)
          (go_big_quiet_want; go_big_quiet_op; go_big_quiet_on)
          (go_big_quiet_want; go_big_quiet_op; go_big_quiet_on)
          (go_big_quiet_want; go_big_quiet_op; go_big_quiet_on)
          (go_big_quiet_want; go_big_quiet_op; go_big_quiet_on)
          (go_big_quiet_want; go_big_quiet_op; go_big_quiet_on)
          (go_big_quiet_want; go_big_quiet_op; go_big_quiet_on)
          (go_big_quiet_want; go_big_quiet_op; go_big_quiet_on)
          (go_big_quiet_want; go_big_quiet_op; go_big_quiet_on)
          (go_big_quiet_want; go_big_quiet_op; go_big_quiet_on)
          (go_big_quiet_want; go_big_quiet_op; go_big_quiet_on)
          (go_big_quiet_want; go_big_quiet_op; go_big_quiet_on)
          (go_big_quiet_want; go_big_quiet_op; go_big_quiet_on)
          (go_big_quiet_want; go_big_quiet_op; go_big_quiet_call (exact laterX_of (RR.out _)))
          (go_big_quiet_want; go_big_quiet_op; go_big_quiet_on)
          (go_big_quiet_want; go_big_quiet_op; go_big_quiet_on)
          exact wpQuiet_nil rfl
        intro G w8 hb _ _
        simp only [List.take_succ_cons, List.take_zero, List.drop_succ_cons, List.drop_zero, ptrs, putsL]
        have OW2 := Lib.hid (own_on OW.out hb)
        have BL2 := Lib.hid (below_on BL.out hb)
        clear x0 x1 OW BL hb RR
        generalize (ax + (k : Int) * s) = X at *
        generalize (ay + q) = Y at *
        go_wp2_with (at_builtin; refine wpList_append_own _ rfl _ _ 24 rfl w3.heap.size 29 i0 (.agg #[.int .i64 0, .int .i64 0]) 2 16 Try.underlying24 hi hz0 hz1 hz2 rfl (by decide) _ _ _ rfl (OW2.out.alloc _) ⟨w8.heap.size, 0, none⟩ 1 1 [.int .i64 X, .int .i64 Y] rfl rfl ?c1 ?c2 ?c3 ?c4 ?c5 ?_)
        case c1 =>
          intro j u hj
          match j, hj with
          | 0, hj => simp at hj; subst hj; simp [Addr.add]
          | 1, hj => simp at hj; subst hj; simp [Addr.add]
        case c2 => intro u hu; simp at hu; rcases hu with rfl | rfl <;> rfl
        case c3 => have := HKL.out; unfold maxLen; omega
        case c4 => have := HKL.out; omega
        case c5 => have := BL2.out.size; simp; omega
        intro v' w9 hown hgrow _
        have hB6 := below_al w8 (.cells #[.int .i64 X, .int .i64 Y] 29)
        have HR2 := Lib.hid (CRel.push (p := (X, Y)) (own_on OW2.out hB6) (below_on BL2.out hB6) hgrow hown)
        rw [← HST.out] at HR2
        clear hB6 hgrow hown OW2 BL2 HKL
        go_wp2
        go_roundw
        case rel => exact ⟨k + 1, by omega, by go_num, HR2⟩
        case measure => simp [intOf] <;> omega
    · have hkn : k = n + 1 := by omega
      subst hkn
      obtain ⟨a0, cap0, rfl, hown, hbl⟩ := HR.out
      have X := Lib.hid (own_pts hown)
      have F : Hid (∀ b o, a0 = some ⟨b, o, none⟩ → w.heap.size ≤ b) := Lib.hid (fun b o h => by subst h; have h1 := (hown.lt b rfl).1; have h2 := G3.out.size; omega)
      have G4 := Lib.hid (below_on G3.out hbl)
      have HCC2 := HCC.out
      rw [← HCC2] at X
      rw [← HCC2]
      clear hown hbl HR HCC HCC2
      go_wp2
      go_ret
      exact ⟨a0, cap0, rfl, ⟨X.out, F.out⟩, G4.out⟩
end Go.Proofs.Ytjclioakdmilmaa
