/- The contract of ink.stroke. -/
import Derived.Test.YtjclioakdmilmaaInkH
import Derived.BigRegion
namespace Go.Proofs.Ytjclioakdmilmaa
open Go.RowKit
open Num Ink
set_option linter.unusedVariables false
theorem Pts.old {w w' : World} {B : Nat} {a : Option Addr} {l : List (Int × Int)} (h : Pts w B a l) (hb : Below B w w') : Pts w' B a l := fun hn => by
  obtain ⟨b, off, e, hB, hc⟩ := h hn
  exact ⟨b, off, e, hB, fun j hj => ⟨(hb.cell (p := ⟨b, off + j * 2, none⟩) hB).trans (hc j hj).1, (hb.cell (p := ⟨b, off + (j * 2 + 1), none⟩) hB).trans (hc j hj).2⟩⟩
theorem alloc_int : ∀ o : Oper, o.op = .alloc 3 → ∀ (a : Act) (v : World), (execOp a.eval o).run Try.prog v = .ok (.value (.pointer (some ⟨v.heap.size, 0, none⟩))) (v.alloc (.cells #[.int .i64 0] 3)) := by
  intro o ho a v; simp [execOp, ho, go_sem]
/-- two new boxes of one number -/
def Cap2 (v : World) (W H : Int) (p q : Value) (wc : World) : Prop := ∃ kw kh, p = .pointer (some ⟨kw, 0, none⟩) ∧ q = .pointer (some ⟨kh, 0, none⟩) ∧ v.heap.size ≤ kw ∧ v.heap.size ≤ kh ∧ wc.cell? ⟨kw, 0, none⟩ = some (.int .i64 W) ∧ wc.cell? ⟨kh, 0, none⟩ = some (.int .i64 H) ∧ Below v.heap.size v wc
theorem Cap2.one (v : World) (W H : Int) : Cap2 v W H (.pointer (some ⟨v.heap.size, 0, none⟩)) (.pointer (some ⟨v.heap.size + 1, 0, none⟩)) ((v.alloc (.cells #[.int .i64 W] 3)).alloc (.cells #[.int .i64 H] 3)).drew :=
  ⟨_, _, rfl, rfl, by omega, by omega, (by simp : ((v.alloc (.cells #[.int .i64 W] 3)).alloc (.cells #[.int .i64 H] 3)).cell? ⟨v.heap.size, 0, none⟩ = _), (by simp : ((v.alloc (.cells #[.int .i64 W] 3)).alloc (.cells #[.int .i64 H] 3)).cell? ⟨v.heap.size + 1, 0, none⟩ = _), (((Below.refl _ _).alloc (by simp) _).alloc (by simp) _).drew⟩
theorem Cap2.two (v : World) (W H : Int) : Cap2 v W H (.pointer (some ⟨v.heap.size + 1, 0, none⟩)) (.pointer (some ⟨v.heap.size, 0, none⟩)) ((v.alloc (.cells #[.int .i64 H] 3)).alloc (.cells #[.int .i64 W] 3)).drew :=
  ⟨_, _, rfl, rfl, by omega, by omega, (by simp : ((v.alloc (.cells #[.int .i64 H] 3)).alloc (.cells #[.int .i64 W] 3)).cell? ⟨v.heap.size + 1, 0, none⟩ = _), (by simp : ((v.alloc (.cells #[.int .i64 H] 3)).alloc (.cells #[.int .i64 W] 3)).cell? ⟨v.heap.size, 0, none⟩ = _), (((Below.refl _ _).alloc (by simp) _).alloc (by simp) _).drew⟩
theorem cels_le (ax ay bx by_ : Int) : (cels ax ay bx by_).length ≤ 16384 := by
  unfold cels
  split
  · rename_i h
    obtain ⟨h1, h2⟩ := h
    rw [nr_iff] at h1 h2
    rw [celK_len]
    unfold stp
    omega
  · simp
set_option maxRecDepth 100000 in
set_option maxHeartbeats 8000000 in
theorem stroke_any (k x0 y0 x1 y1 : Int) (l : List (Int × Int)) (p : Option Addr) (cap : Nat) (a b c d W H : Int) (o n base : Nat) (g cc : Nat → Nat) (V : Pic) (w : World) (hP : Pls w o g cc n W H V) (hn : (n : Int) = W * H) (hW : 0 ≤ W ∧ W ≤ 256) (hH : 0 ≤ H ∧ H ≤ 256)
    (hp : Pts w base p l) (hbs : base ≤ w.heap.size) (hg : ∀ i, i < 4 → base ≤ g i) (hl0 : 0 < l.length) (hl1 : l.length ≤ 4096) :
    Calls Try.prog 35 #[.pointer (some ⟨o, 0, none⟩), dw k x0 y0 x1 y1 (.slice p l.length cap) a b c d] w
      fun e w' => e = .returned (.tuple #[]) ∧ PutR o g cc n W H (putL W H (ik4 a b c d) (pth l (l.length - 1)) V) w w' := by
  have PZ := Lib.hid (pth_zero l hl0)
  have PS := Lib.hid (fun k h => pth_step l k h)
  have HP0 := Lib.hid hP
  have HPT := Lib.hid hp
  have HBS := Lib.hid hbs
  have HG := Lib.hid hg
  have HN := Lib.hid hn
  have o0 := hP.wd 0 (by omega)
  have o1 := hP.ht 0 (by omega)
  have hgl : Hid (∀ i, i < 4 → g i < w.heap.size) := Lib.hid (fun i hi => hP.glt i hi)
  clear hP hp hbs hg hn
  unfold dw
  have b1 := below_al w (.cells #[.pointer (some ⟨o, 0, none⟩)] 65)
  have e1 : (w.alloc (.cells #[.pointer (some ⟨o, 0, none⟩)] 65)).cell? ⟨w.heap.size, 0, none⟩ = some (.pointer (some ⟨o, 0, none⟩)) := by simp
  have o0 := cell_on o0 b1
  have o1 := cell_on o1 b1
  have s1 : (w.alloc (.cells #[.pointer (some ⟨o, 0, none⟩)] 65)).heap.size = w.heap.size + 1 := by simp
  go_enter Try.func35, Try.ntmps35
  go_upto_region 1 with fail
  generalize w.alloc (.cells #[.pointer (some ⟨o, 0, none⟩)] 65) = v1 at *
  have b2 := below_al v1 (.cells #[.int .i64 k, .int .i64 x0, .int .i64 y0, .int .i64 x1, .int .i64 y1, .slice p l.length cap, .int .i64 a, .int .i64 b, .int .i64 c, .int .i64 d] 27)
  have d2 := Dw.new v1 k x0 y0 x1 y1 (.slice p l.length cap) a b c d 27
  rw [s1] at d2
  have o0 := cell_on o0 b2
  have o1 := cell_on o1 b2
  have e1 := cell_on e1 b2
  have G2 := Lib.hid (below_on b1 b2)
  have D2 := Lib.hid d2
  clear b1 b2 s1 d2
  generalize v1.alloc (.cells #[.int .i64 k, .int .i64 x0, .int .i64 y0, .int .i64 x1, .int .i64 y1, .slice p l.length cap, .int .i64 a, .int .i64 b, .int .i64 c, .int .i64 d] 27) = v2 at *
  have lo := cell_lt o0
  have le := cell_lt e1
  go_cut [4, 5] from 10 to 19 (fun p q wc => Cap2 v2 W H p q wc)
  case first =>
    clear HP0 PZ PS HPT
    go_region
    all_goals
      go_wp2_with fail
      go_meet
      first | exact Cap2.one v2 W H | exact Cap2.two v2 W H
  case rest =>
  obtain ⟨kw, kh, rfl, rfl, hkw, hkh, cw, ch, hb3⟩ := hcut
  have D3 := Lib.hid (D2.out.later hb3)
  have cp := cell_on e1 hb3
  have G3 := Lib.hid (below_on G2.out hb3)
  have HP3 := Lib.hid (HP0.out.later G3.out)
  have HPT3 := Lib.hid (HPT.out.old (G3.out.mono HBS.out))
  have NG : Hid (∀ k', w.heap.size ≤ k' → ∀ i, i < 4 → k' ≠ g i) := Lib.hid (fun k' hk' i hi e => by have := hgl.out i hi; omega)
  have n1 := NG.out kw (by have := G2.out.size; omega)
  have n2 := NG.out kh (by have := G2.out.size; omega)
  have n3 := NG.out w.heap.size (by omega)
  have n4 := NG.out (w.heap.size + 1) (by omega)
  have NW := Lib.hid (NG.out)
  clear hb3 o0 o1 e1 HP0 D2 G2 NG lo le hkw hkh
  generalize hsz : w.heap.size = sz at *
  have HSZ := Lib.hid hsz
  clear hsz
  obtain ⟨pb, off, rfl, hpb, hc⟩ := HPT3.out hl0
  have u1 : wc.cell? ⟨pb, off, none⟩ = some (.int .i64 l[0].1) := by simpa using (hc 0 hl0).1
  have u2 : wc.cell? ⟨pb, off + 1, none⟩ = some (.int .i64 l[0].2) := by simpa using (hc 0 hl0).2
  clear hc
  obtain ⟨h0, h1, h2, h3, h4, h5, h6, h7, h8, h9⟩ := D3.out
  have q0 : (0 : Int) < (l.length : Int) := by omega
  have q1 : 0 < l.length := hl0
  have PP := Lib.hid (put_any l[0].1 l[0].2 W H a b c d o sz (sz + 1) kw kh n g cc V wc HP3.out HN.out hW hH cw ch cp h6 h7 h8 h9 n1 n2 n3)
  rw [← putL_one W H (ik4 a b c d) (l[0].1, l[0].2) V] at PP
  have PP : Hid (Calls Try.prog 43 #[.agg #[.int .i64 l[0].1, .int .i64 l[0].2], .pointer (some ⟨kw, 0, none⟩), .pointer (some ⟨kh, 0, none⟩), .pointer (some ⟨sz + 1, 0, none⟩), .pointer (some ⟨sz, 0, none⟩)] wc
      fun e w' => e = .returned (.tuple #[]) ∧ PutR o g cc n W H (putL W H (ik4 a b c d) (pth l 0) V) wc w') := by rw [PZ.out]; exact PP
  generalize l[0].1 = X at *
  generalize l[0].2 = Y at *
  go_wp2_with fail
  refine PP.out.mono ?_
  rintro e w4 ⟨rfl, hr4⟩
  have R4 := Lib.hid hr4
  clear hr4 PP
  go_wp2_with fail
  go_loopw [7] (fun i wr => ∃ j : Nat, j + 1 ≤ l.length ∧ i = .int .i64 ((j : Int) + 1) ∧ Hid (PutR o g cc n W H (putL W H (ik4 a b c d) (pth l j) V) wc wr)) (fun i _ => l.length - (intOf i).toNat)
  case atStart => exact ⟨0, by omega, rfl, R4⟩
  case round =>
    obtain ⟨j, hj, rfl, HR⟩ := hrel
    by_cases hlt : j + 1 < l.length
    · have BL := Lib.hid (HR.out.2.below (B := base) (by have := HBS.out; have := HSZ.out; have := G3.out.size; omega) HG.out)
      obtain ⟨pb', off', e', -, hc⟩ := (HPT3.out.old BL.out) hl0
      injection e' with e'
      injection e' with e1' e2'
      subst e1' e2'
      have v1' := hc j (by omega)
      have v2' := hc (j + 1) hlt
      have x1 : wr.cell? ⟨pb, off + j * 2, none⟩ = some (.int .i64 l[j].1) := v1'.1
      have x2 : wr.cell? ⟨pb, off + j * 2 + 1, none⟩ = some (.int .i64 l[j].2) := v1'.2
      have x3 : wr.cell? ⟨pb, off + (j + 1) * 2, none⟩ = some (.int .i64 l[j + 1].1) := v2'.1
      have x4 : wr.cell? ⟨pb, off + (j + 1) * 2 + 1, none⟩ = some (.int .i64 l[j + 1].2) := v2'.2
      have x5 := HR.out.2.cell h5 n4
      have hst := PS.out j hlt
      have HST := Lib.hid hst
      clear v1' v2' hc hst u1 u2
      have q2 : (0 : Int) ≤ (j : Int) := by omega
      have q3 : (j : Int) < (l.length : Int) := by omega
      have q4 : (0 : Int) ≤ (j : Int) + 1 := by omega
      have q5 : (j : Int) + 1 < (l.length : Int) := by omega
      have q6 : ((j : Int) + 1).toNat = j + 1 := by omega
      have q7 : wrap64 (j : Int) = (j : Int) := w64i _ (by omega) (by omega)
      generalize l[j].1 = X1 at *
      generalize l[j].2 = Y1 at *
      generalize l[j + 1].1 = X2 at *
      generalize l[j + 1].2 = Y2 at *
      go_upto_region 7 with fail
      refine region_freeF (P := Try.prog) (.int .i64 0) [] 11 11 55 29 (.cells #[.int .i64 0, .int .i64 0] 29) rfl (by kernel_rfl) (by kernel_rfl) (by decide) (by kernel_rfl) (fun _ _ _ _ _ h => h) (fun w' => by simp [execOp, go_sem]) ?_ (by kernel_rfl) (by kernel_rfl) alloc_pt ?_
      · rfl
      apply Exists.intro
      refine ⟨?hqt, ?hft⟩
      case hqt =>
        intro X' hne
        haveI := hne
        simp only [List.dropLast, List.getLast_cons_cons, List.getLast_singleton, List.take_succ_cons, List.take_zero]
        have L1 := fun m' : LaterX wr X' => m'.cell x1
        have L2 := fun m' : LaterX wr X' => m'.cell x2
        have L3 := fun m' : LaterX wr X' => m'.cell x3
        have L4 := fun m' : LaterX wr X' => m'.cell x4
        have L5 := fun m' : LaterX wr X' => m'.cell x5
        iterate 12 (go_big_quiet_want; go_big_quiet_op; go_big_quiet_on)
        exact wpQuiet_nil rfl
      intro G w8 hb _ _
      simp only [List.dropLast, List.take_succ_cons, List.take_zero, List.drop_succ_cons, List.drop_zero, ptrs, putsL]
      have HR8 : Hid (PutR o g cc n W H (putL W H (ik4 a b c d) (pth l j) V) wc w8) := Lib.hid ⟨HR.out.1.later hb, HR.out.2.on hb⟩
      clear x1 x2 x3 x4 x5 HR hb q6 q7 BL
      have CC := Lib.hid (fun v => Cells_any X1 Y1 X2 Y2 v)
      go_wp2_with fail
      refine (CC.out _).mono ?_
      rintro e w9 ⟨a9, cap9, rfl, hpt9, hb9⟩
      have HR9 : Hid (PutR o g cc n W H (putL W H (ik4 a b c d) (pth l j) V) wc w9) := Lib.hid ⟨HR8.out.1.later hb9, HR8.out.2.on hb9⟩
      have HPT9 := Lib.hid hpt9.1
      have NC : Hid (∀ b o, a9 = some ⟨b, o, none⟩ → ∀ i, i < 4 → b ≠ g i) := Lib.hid (fun b o h i hi e => by
        have e1 := hpt9.2 b o h
        have e2 := HR8.out.1.glt i hi
        omega)
      clear hpt9 HR8 hb9 CC
      generalize hC : cels X1 Y1 X2 Y2 = C at *
      generalize hpj : pth l j = PJ at *
      clear hpj
      have HCL : C.length ≤ 16384 := by rw [← hC]; exact cels_le _ _ _ _
      clear hC
      have S0 : Hid (PutR o g cc n W H (putL W H (ik4 a b c d) (PJ ++ C.take 0) V) wc w9) := by rw [List.take_zero, List.append_nil]; exact HR9
      clear HR9
      go_wp2_with fail
      go_loopw [47] (fun i wr => ∃ m : Nat, m ≤ C.length ∧ i = .int .i64 m ∧ Hid (PutR o g cc n W H (putL W H (ik4 a b c d) (PJ ++ C.take m) V) wc wr) ∧ Hid (Pts wr wr.heap.size a9 C)) (fun i _ => C.length - (intOf i).toNat)
      case atStart => exact ⟨0, by omega, rfl, S0, HPT9⟩
      case round =>
        obtain ⟨m, hm, rfl, HM, HQ⟩ := hrel
        by_cases hmt : m < C.length
        · have hst := List.take_succ_eq_append_getElem hmt
          have y1 := HM.out.2.cell cw n1
          have y2 := HM.out.2.cell ch n2
          have y3 := HM.out.2.cell cp n3
          have y6 := HM.out.2.cell h6 n4
          have y7 := HM.out.2.cell h7 n4
          have y8 := HM.out.2.cell h8 n4
          have y9 := HM.out.2.cell h9 n4
          obtain ⟨b9, o9, rfl, hb9, hc9⟩ := HQ.out (by omega)
          have t1 : wr.cell? ⟨b9, o9 + m * 2, none⟩ = some (.int .i64 C[m].1) := (hc9 m hmt).1
          have t2 : wr.cell? ⟨b9, o9 + m * 2 + 1, none⟩ = some (.int .i64 C[m].2) := (hc9 m hmt).2
          have q6 : (0 : Int) ≤ (m : Int) := by omega
          have q7 : (m : Int) < (C.length : Int) := by omega
          have bz := below_al wr (.cells #[.int .i64 C[m].1, .int .i64 C[m].2] 29)
          have PP0 := fun v (hv : Below wr.heap.size wr v) => put_any C[m].1 C[m].2 W H a b c d o sz (sz + 1) kw kh n g cc (putL W H (ik4 a b c d) (PJ ++ C.take m) V) v (HM.out.1.later hv) HN.out hW hH (cell_on y1 hv) (cell_on y2 hv) (cell_on y3 hv) (cell_on y6 hv) (cell_on y7 hv) (cell_on y8 hv) (cell_on y9 hv) n1 n2 n3
          have PP : Hid (∀ v, Below wr.heap.size wr v → Calls Try.prog 43 #[.agg #[.int .i64 C[m].1, .int .i64 C[m].2], .pointer (some ⟨kw, 0, none⟩), .pointer (some ⟨kh, 0, none⟩), .pointer (some ⟨sz + 1, 0, none⟩), .pointer (some ⟨sz, 0, none⟩)] v
              fun e w' => e = .returned (.tuple #[]) ∧ PutR o g cc n W H (putL W H (ik4 a b c d) (PJ ++ C.take (m + 1)) V) v w') := Lib.hid (fun v hv => by
            rw [hst, ← List.append_assoc, putL_append, putL_one]; exact PP0 v hv)
          have HB := Lib.hid bz
          clear PP0 hst bz y1 y2 y3 y6 y7 y8 y9 hc9 h0 h1 h2 h3 h4 h5 h6 h7 h8 h9 cw ch cp
          generalize C[m].1 = X at *
          generalize C[m].2 = Y at *
          go_wp2_with fail
          refine (PP.out _ HB.out).mono ?_
          rintro e w10 ⟨rfl, hr10⟩
          have R10 : Hid (PutR o g cc n W H (putL W H (ik4 a b c d) (PJ ++ C.take (m + 1)) V) wc w10) := Lib.hid ⟨hr10.1, (HM.out.2.on HB.out).trans hr10.2⟩
          have Q10 : Hid (Pts w10 w10.heap.size (some ⟨b9, o9, none⟩) C) := Lib.hid (fun hn => by
            obtain ⟨b', o', e', hb', hc'⟩ := (HQ.out.later HB.out) hn
            injection e' with e'
            injection e' with e1 e2
            subst e1 e2
            refine ⟨b9, o9, rfl, Nat.lt_of_lt_of_le hb' hr10.2.size, fun x hx => ⟨hr10.2.cell (hc' x hx).1 (NC.out b9 o9 rfl), hr10.2.cell (hc' x hx).2 (NC.out b9 o9 rfl)⟩⟩)
          clear hr10 HM HQ PP HB t1 t2
          go_wp2
          go_roundw
          case rel => exact ⟨m + 1, by omega, by go_num, R10, Q10⟩
          case measure => simp [intOf] <;> omega
        · have hme : m = C.length := by omega
          have S1 : Hid (PutR o g cc n W H (putL W H (ik4 a b c d) (pth l (j + 1)) V) wc wr) := by rw [HST.out]; rw [hme, List.take_length] at HM; exact HM
          clear HM HQ S0 HPT9 NC HST hme
          go_wp2
          go_roundw
          case rel => exact ⟨j + 1, by omega, by go_num, S1⟩
          case measure => simp [intOf] <;> omega
    · have hje : l.length - 1 = j := by omega
      have S2 : Hid (PutR o g cc n W H (putL W H (ik4 a b c d) (pth l (l.length - 1)) V) w wr) := by rw [hje]; exact Lib.hid ⟨HR.out.1, (Kp.of (by rw [HSZ.out]; exact G3.out)).trans HR.out.2⟩
      have x5 := HR.out.2.cell h5 n4
      clear HR R4
      go_wp2
      go_end0
      exact ⟨rfl, S2.out⟩
end Go.Proofs.Ytjclioakdmilmaa
