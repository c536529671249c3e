/- Several texts of layer cut in one (joined by cc.py). -/
import Derived.Test.YtjclioakdmilmaaInkPlainG
import Derived.Test.YtjclioakdmilmaaInkP
import Derived.Test.YtjclioakdmilmaaInkT
import Derived.Test.YtjclioakdmilmaaInkQ
import Derived.Test.YtjclioakdmilmaaInkS
import Derived.Test.YtjclioakdmilmaaInkR
import Derived.Maps.AppendAt
import Derived.Test.YtjclioakdmilmaaFreeL
import Derived.Test.YtjclioakdmilmaaFreeM
section
set_option linter.unusedVariables false
namespace Go.Proofs.Ytjclioakdmilmaa.Ink
open Num
theorem if2 {α : Type} {p q : Prop} [Decidable p] [Decidable q] (h : ¬ (p ∧ q)) (A B : α) : (if p then if q then A else B else B) = B := by
  split
  · rename_i hp
    rw [if_neg (fun hq => h ⟨hp, hq⟩)]
  · rfl
/-- the cells of the segment that ends in point i of a path -/
def segC (l : List (Int × Int)) (i : Nat) : List (Int × Int) := cels (l.getD (i - 1) (0, 0)).1 (l.getD (i - 1) (0, 0)).2 (l.getD i (0, 0)).1 (l.getD i (0, 0)).2
/-- a cell lies in one of the first n segments -/
def hit (l : List (Int × Int)) (n : Nat) (p : Int × Int) : Prop := ∃ i, i < n ∧ p ∈ segC l i
open Classical in
/-- the operation covers the cell -/
noncomputable def covB (k x0 y0 x1 y1 : Int) (l : List (Int × Int)) (p : Int × Int) : Bool :=
  if k = 2 then decide (hit l l.length p) else ((decide (x0 ≤ p.1) && decide (p.1 ≤ x1)) && decide (y0 ≤ p.2)) && decide (p.2 ≤ y1)
noncomputable def Dr.cov (x : Dr) (p : Int × Int) : Bool := covB x.k x.x0 x.y0 x.x1 x.y1 x.l p
theorem hit_zero (l : List (Int × Int)) (p : Int × Int) : ¬ hit l 0 p := fun ⟨i, h, _⟩ => by omega
theorem hit_succ {l : List (Int × Int)} {n : Nat} {p : Int × Int} : hit l (n + 1) p ↔ hit l n p ∨ p ∈ segC l n := by
  constructor
  · rintro ⟨i, h, hp⟩
    by_cases e : i = n
    · subst e; exact .inr hp
    · exact .inl ⟨i, by omega, hp⟩
  · rintro (⟨i, h, hp⟩ | h)
    · exact ⟨i, by omega, hp⟩
    · exact ⟨n, by omega, h⟩
theorem hit_le {l : List (Int × Int)} {n m : Nat} {p : Int × Int} (h : hit l n p) (hm : n ≤ m) : hit l m p := by
  obtain ⟨i, h1, h2⟩ := h; exact ⟨i, by omega, h2⟩
theorem segC_at (l : List (Int × Int)) (k : Nat) (h : k < l.length) (h' : k - 1 < l.length) : segC l k = cels l[k - 1].1 l[k - 1].2 l[k].1 l[k].2 := by
  simp [segC, h, h']
theorem cov_hit {k x0 y0 x1 y1 : Int} {l : List (Int × Int)} {p : Int × Int} (hk : k = 2) {n : Nat} (hn : n ≤ l.length) (h : hit l n p) : covB k x0 y0 x1 y1 l p = true := by
  unfold covB; rw [if_pos hk]; simpa using hit_le h hn
theorem cov_miss {k x0 y0 x1 y1 : Int} {l : List (Int × Int)} {p : Int × Int} (hk : k = 2) (h : ¬ hit l l.length p) : covB k x0 y0 x1 y1 l p = false := by
  unfold covB; rw [if_pos hk]; simpa using h
theorem cov_box {k x0 y0 x1 y1 : Int} {l : List (Int × Int)} {p : Int × Int} (hk : ¬ k = 2) : covB k x0 y0 x1 y1 l p = (((decide (x0 ≤ p.1) && decide (p.1 ≤ x1)) && decide (y0 ≤ p.2)) && decide (p.2 ≤ y1)) := by
  unfold covB; rw [if_neg hk]
/-- the cells of the path are those of the segments -/
theorem mem_pth (l : List (Int × Int)) (k : Nat) (hk : k < l.length) (hn : (l.all fun p => nr p.1 p.2) = true) (p : Int × Int) : p ∈ pth l k ↔ hit l (k + 1) p := by
  induction k with
  | zero =>
    rw [hit_succ, pth_zero l hk, segC_at l 0 hk hk]
    have h0 : nr l[0].1 l[0].2 = true := by rw [List.all_eq_true] at hn; exact hn _ (List.getElem_mem hk)
    show p ∈ [l[0]] ↔ hit l 0 p ∨ p ∈ cels l[0].1 l[0].2 l[0].1 l[0].2
    rw [cels_same h0]
    constructor
    · intro h; exact .inr h
    · rintro (h | h)
      · exact absurd h (hit_zero l p)
      · exact h
  | succ k ih =>
    rw [hit_succ, pth_step l k hk, List.mem_append, ih (by omega), segC_at l (k + 1) hk (by omega)]
    rfl
theorem putL_at (w : Nat) (h : Int) (ik : Nat → Int) (l : List (Int × Int)) (V : Pic) (i j : Nat) (hw : 0 < w) (hj : (j : Int) < w * h) :
    putL w h ik l V i j = if (((j % w : Nat) : Int), ((j / w : Nat) : Int)) ∈ l then ik i else V i j := by
  have key : ∀ p : Int × Int, ((0 ≤ p.1 ∧ p.1 < (w : Int) ∧ 0 ≤ p.2 ∧ p.2 < h) ∧ (j : Int) = p.2 * w + p.1) ↔ (((j % w : Nat) : Int), ((j / w : Nat) : Int)) = p := by
    intro p
    have hq : j % w < w := Nat.mod_lt _ hw
    have he : w * (j / w) + j % w = j := Nat.div_add_mod _ _
    constructor
    · rintro ⟨⟨h1, h2, h3, h4⟩, h5⟩
      obtain ⟨x, hx⟩ : ∃ x : Nat, p.1 = (x : Int) := ⟨p.1.toNat, by omega⟩
      obtain ⟨y, hy⟩ : ∃ y : Nat, p.2 = (y : Int) := ⟨p.2.toNat, by omega⟩
      rw [hx, hy] at h5
      have h6 : j = y * w + x := by exact_mod_cast h5
      have hxw : x < w := by omega
      have e1 : j / w = y := by
        refine Nat.div_eq_of_lt_le (by omega) ?_
        rw [Nat.add_mul]; omega
      have e2 : j % w = x := by
        rw [e1, Nat.mul_comm] at he; omega
      rw [e1, e2, ← hx, ← hy]
    · rintro rfl
      have hr : ((j / w : Nat) : Int) < h := by
        have h0 : (w : Int) * ((j / w : Nat) : Int) + ((j % w : Nat) : Int) = (j : Int) := by exact_mod_cast he
        have h1 : (w : Int) * ((j / w : Nat) : Int) < w * h := by omega
        exact Int.lt_of_mul_lt_mul_left h1 (by omega)
      refine ⟨⟨Int.natCast_nonneg _, Int.ofNat_lt.2 hq, Int.natCast_nonneg _, hr⟩, ?_⟩
      have h0 : (w : Int) * ((j / w : Nat) : Int) + ((j % w : Nat) : Int) = (j : Int) := by exact_mod_cast he
      simp only
      rw [Int.mul_comm] at h0; omega
  induction l generalizing V with
  | nil => simp [putL]
  | cons p l ih =>
    show putL w h ik l (putC w h ik p V) i j = _
    rw [ih]
    unfold putC
    generalize (((j % w : Nat) : Int), ((j / w : Nat) : Int)) = q at *
    by_cases h1 : q ∈ l
    · rw [if_pos h1, if_pos (by simp [h1])]
    · rw [if_neg h1]
      by_cases h2 : q = p
      · rw [if_pos ((key p).2 h2), if_pos (by simp [h2])]
      · rw [if_neg (fun h => h2 ((key p).1 h)), if_neg (by simp [h1, h2])]
/-- one operation, at one cell -/
theorem drw_at (w : Nat) (h : Int) {x : Dr} (hx : x.err = 0) (V : Pic) (i j : Nat) (hw : 0 < w) (hj : (j : Int) < w * h) :
    drw w h x V i j = if x.cov (((j % w : Nat) : Int), ((j / w : Nat) : Int)) = true then x.ink i else V i j := by
  obtain ⟨hk, hb, hl, -, -, -, hn⟩ := ck_ok hx
  unfold drw Dr.cov
  by_cases e : x.k = 2
  · rw [if_pos e, putL_at w h _ _ _ _ _ hw hj]
    have hl0 : 0 < x.l.length := by
      rw [e] at hb
      simp [bareB] at hb
      exact hb.2
    have hm := mem_pth x.l (x.l.length - 1) (by omega) hn (((j % w : Nat) : Int), ((j / w : Nat) : Int))
    rw [show x.l.length - 1 + 1 = x.l.length by omega] at hm
    by_cases h1 : hit x.l x.l.length (((j % w : Nat) : Int), ((j / w : Nat) : Int))
    · rw [if_pos (hm.2 h1), if_pos (cov_hit e (Nat.le_refl _) h1)]
    · rw [if_neg (fun h2 => h1 (hm.1 h2)), cov_miss e h1, if_neg (by simp)]
  · rw [if_neg e, cov_box e]
    unfold filP
    by_cases h1 : x.x0 ≤ ((j % w : Nat) : Int) ∧ ((j % w : Nat) : Int) ≤ x.x1 ∧ x.y0 ≤ ((j / w : Nat) : Int) ∧ ((j / w : Nat) : Int) ≤ x.y1
    · rw [if_pos h1, if_pos (by simp only [Bool.and_eq_true, decide_eq_true_eq]; exact ⟨⟨⟨h1.1, h1.2.1⟩, h1.2.2.1⟩, h1.2.2.2⟩)]
    · rw [if_neg h1, if_neg (by simp only [Bool.and_eq_true, decide_eq_true_eq]; rintro ⟨⟨⟨a1, a2⟩, a3⟩, a4⟩; exact h1 ⟨a1, a2, a3, a4⟩)]
/-- the inks of a cell after some operations: those of the last that covers it, or the given ones -/
noncomputable def inkR (D : List Dr) (p : Int × Int) (V : Nat → Int) (i : Nat) : Int := D.foldl (fun z x => if x.cov p = true then x.ink i else z) (V i)
theorem inkR_step (D : List Dr) (k : Nat) (hk : k < D.length) (p : Int × Int) (V : Nat → Int) (i : Nat) : inkR (D.take (k + 1)) p V i = if D[k].cov p = true then D[k].ink i else inkR (D.take k) p V i := by
  unfold inkR; rw [List.take_succ_eq_append_getElem hk, List.foldl_append]; rfl
theorem drwL_at (w : Nat) (h : Int) {D : List Dr} (hD : ∀ x ∈ D, x.err = 0) (V : Pic) (i j : Nat) (hw : 0 < w) (hj : (j : Int) < w * h) :
    drwL w h D V i j = inkR D (((j % w : Nat) : Int), ((j / w : Nat) : Int)) (fun i => V i j) i := by
  unfold drwL inkR
  induction D generalizing V with
  | nil => rfl
  | cons x D ih =>
    show D.foldl (fun V x => drw w h x V) (drw w h x V) i j = _
    rw [ih (fun y hy => hD y (by simp [hy]))]
    show _ = D.foldl _ (if x.cov _ = true then x.ink i else V i j)
    rw [← drw_at w h (hD x (by simp)) V i j hw hj]
end Go.Proofs.Ytjclioakdmilmaa.Ink
end
section
namespace Go.Proofs.Ytjclioakdmilmaa
open Go.RowKit
open Num Ink
set_option linter.unusedVariables false
set_option maxRecDepth 100000 in
set_option maxHeartbeats 8000000 in
theorem rCovers_any (k x0 y0 x1 y1 : Int) (l : List (Int × Int)) (p : Option Addr) (cap : Nat) (a b c d cx cy : Int) (w : World) (hl : l.length ≤ 4096) (hp : Pts w w.heap.size p l) :
    Calls Try.prog 23 #[dw k x0 y0 x1 y1 (.slice p l.length cap) a b c d, .agg #[.int .i64 cx, .int .i64 cy]] w fun e w' => e = .returned (.bool (covB k x0 y0 x1 y1 l (cx, cy))) ∧ Below w.heap.size w w' := by
  have b1 := below_al w (.cells #[.int .i64 k, .int .i64 x0, .int .i64 y0, .int .i64 x1, .int .i64 y1, .slice p l.length cap, .int .i64 a, .int .i64 b, .int .i64 c, .int .i64 d] 27)
  have k1 := Dw.new w k x0 y0 x1 y1 (.slice p l.length cap) a b c d 27
  have HH := Lib.hid (fun (n : Nat) hk hn h => cov_hit (k := k) (x0 := x0) (y0 := y0) (x1 := x1) (y1 := y1) (l := l) (p := (cx, cy)) hk (n := n) hn h)
  have HM := Lib.hid (fun hk h => cov_miss (k := k) (x0 := x0) (y0 := y0) (x1 := x1) (y1 := y1) (l := l) (p := (cx, cy)) hk h)
  have HB := Lib.hid (fun hk => cov_box (k := k) (x0 := x0) (y0 := y0) (x1 := x1) (y1 := y1) (l := l) (p := (cx, cy)) hk)
  generalize covB k x0 y0 x1 y1 l (cx, cy) = R at *
  unfold dw at *
  have s1 : (w.alloc (.cells #[.int .i64 k, .int .i64 x0, .int .i64 y0, .int .i64 x1, .int .i64 y1, .slice p l.length cap, .int .i64 a, .int .i64 b, .int .i64 c, .int .i64 d] 27)).heap.size = w.heap.size + 1 := by simp
  go_enter Try.func23, Try.ntmps23
  go_upto_region 1 with fail
  generalize w.alloc (.cells #[.int .i64 k, .int .i64 x0, .int .i64 y0, .int .i64 x1, .int .i64 y1, .slice p l.length cap, .int .i64 a, .int .i64 b, .int .i64 c, .int .i64 d] 27) = v1 at *
  have b2 := below_al v1 (.cells #[.int .i64 cx, .int .i64 cy] 29)
  have k2 := Bx.new v1 cx cy 29
  rw [s1] at k2
  have D0 := Lib.hid (k1.later b2)
  have K2 := Lib.hid k2
  have G := Lib.hid (below_on b1 b2)
  have HP := Lib.hid (Pts.later (Pts.later hp b1) b2)
  clear b1 b2 k1 k2 s1 hp
  generalize v1.alloc (.cells #[.int .i64 cx, .int .i64 cy] 29) = u0 at *
  generalize hsz : w.heap.size = sz at *
  have HSZ := Lib.hid hsz
  clear hsz
  obtain ⟨h0, h1, h2, h3, h4, h5, -⟩ := D0.out
  obtain ⟨c0, c1, -⟩ := K2.out
  by_cases hk : k = 2
  case neg =>
    have d0 : decide (k = 2) = false := by simpa using hk
    have HR := Lib.hid (HB.out hk)
    clear HB HH HM
    by_cases e1 : x0 ≤ cx
    · have d1 : decide (x0 ≤ cx) = true := by simpa using e1
      by_cases e2 : cx ≤ x1
      · have d2 : decide (cx ≤ x1) = true := by simpa using e2
        by_cases e3 : y0 ≤ cy
        · have d3 : decide (y0 ≤ cy) = true := by simpa using e3
          have HR2 : Hid (R = decide (cy ≤ y1)) := Lib.hid (by rw [HR.out]; simp [e1, e2, e3])
          clear e1 e2 e3 HR
          go_wp2_with fail
          go_ret
          exact ⟨by rw [HR2.out]; rfl, by rw [HSZ.out]; exact G.out⟩
        · have d3 : decide (y0 ≤ cy) = false := by simpa using e3
          have HR2 : Hid (R = false) := Lib.hid (by rw [HR.out]; simp [e3])
          clear e1 e2 e3 HR
          go_wp2_with fail
          go_ret
          exact ⟨by rw [HR2.out]; rfl, by rw [HSZ.out]; exact G.out⟩
      · have d2 : decide (cx ≤ x1) = false := by simpa using e2
        have HR2 : Hid (R = false) := Lib.hid (by rw [HR.out]; simp [e2])
        clear e1 e2 HR
        go_wp2_with fail
        go_ret
        exact ⟨by rw [HR2.out]; rfl, by rw [HSZ.out]; exact G.out⟩
    · have d1 : decide (x0 ≤ cx) = false := by simpa using e1
      have HR2 : Hid (R = false) := Lib.hid (by rw [HR.out]; simp [e1])
      clear e1 HR
      go_wp2_with fail
      go_ret
      exact ⟨by rw [HR2.out]; rfl, by rw [HSZ.out]; exact G.out⟩
  have HH2 := Lib.hid (fun n hn h => HH.out n hk hn h)
  have HM2 := Lib.hid (fun h => HM.out hk h)
  clear HH HM HB
  obtain rfl := hk
  go_wp2_with fail
  clear h0 h1 h2 h3 h4 h5 c0 c1
  go_loopw [5] (fun i wr => ∃ n : Nat, n ≤ l.length ∧ i = .int .i64 n ∧ Hid (Below u0.heap.size u0 wr) ∧ Hid (¬ hit l n (cx, cy))) (fun i _ => l.length - (intOf i).toNat)
  case atStart => exact ⟨0, by omega, rfl, Lib.hid (Below.refl _ _), Lib.hid (hit_zero _ _)⟩
  case round =>
    obtain ⟨n, hn, rfl, HW, HN⟩ := hrel
    have D1 := Lib.hid (D0.out.later HW.out)
    have K1 := Lib.hid (K2.out.later HW.out)
    obtain ⟨h0, h1, h2, h3, h4, h5, -⟩ := D1.out
    by_cases hlt : n < l.length
    · obtain ⟨pb, off, rfl, -, hc⟩ := (HP.out.later HW.out) (by omega)
      have hlt' : n - 1 < l.length := by omega
      have y0' : wr.cell? ⟨pb, off + (n - 1) * 2, none⟩ = some (.int .i64 l[n - 1].1) := (hc (n - 1) hlt').1
      have y1' : wr.cell? ⟨pb, off + (n - 1) * 2 + 1, none⟩ = some (.int .i64 l[n - 1].2) := (hc (n - 1) hlt').2
      have y2' : wr.cell? ⟨pb, off + n * 2, none⟩ = some (.int .i64 l[n].1) := (hc n hlt).1
      have y3' : wr.cell? ⟨pb, off + n * 2 + 1, none⟩ = some (.int .i64 l[n].2) := (hc n hlt).2
      have HC := Lib.hid (segC_at l n hlt hlt')
      clear hc
      generalize l[n - 1].1 = X1 at *
      generalize l[n - 1].2 = Y1 at *
      generalize l[n].1 = X2 at *
      generalize l[n].2 = Y2 at *
      have f1 : wrap64 ((n : Int) - 1) = (n : Int) - 1 := w64i _ (by omega) (by omega)
      have f2 : max ((n : Int) - 1) 0 = ((n - 1 : Nat) : Int) := by omega
      have MX := fun v => run_max ((n : Int) - 1) 0 v
      simp only [f2] at MX
      have q1 : (0 : Int) ≤ ((n - 1 : Nat) : Int) := by omega
      have q2 : ((n - 1 : Nat) : Int) < (l.length : Int) := by omega
      have q3 : (0 : Int) ≤ (n : Int) := by omega
      have q4 : (n : Int) < (l.length : Int) := by omega
      go_upto_region 6 with fail
      refine region_freeL (P := Try.prog) [] 12 12 73 29 (.cells #[.int .i64 0, .int .i64 0] 29) (by kernel_rfl) (by decide) (by kernel_rfl) (fun _ _ _ _ _ h => h) ?_ (by kernel_rfl) (by kernel_rfl) alloc_pt ?_
      · rfl
      apply Exists.intro
      refine ⟨?hqt, ?hft⟩
      case hqt =>
        intro X' hne
        haveI := hne
        simp only [List.take_succ_cons, List.take_zero]
        have L0 := fun m' : LaterX wr X' => m'.cell h5
        have L1 := fun m' : LaterX wr X' => m'.cell y0'
        have L2 := fun m' : LaterX wr X' => m'.cell y1'
        have L3 := fun m' : LaterX wr X' => m'.cell y2'
        have L4 := fun m' : LaterX wr X' => m'.cell y3'
        iterate 12 (go_big_quiet_want; go_big_quiet_op; go_big_quiet_on)
        exact wpQuiet_nil rfl
      intro G0 w8 hb _ _
      simp only [List.take_succ_cons, List.take_zero, List.drop_succ_cons, List.drop_zero, ptrs, putsL]
      have HW8 := Lib.hid (below_on HW.out hb)
      have K8 := Lib.hid (K1.out.later hb)
      clear hb h0 h1 h2 h3 h4 h5 y0' y1' y2' y3' MX f1 f2 q1 q2 D1 K1 HW
      have CC := Lib.hid (fun v => rCells_any X1 Y1 X2 Y2 v)
      go_wp2_with fail
      refine (CC.out _).mono ?_
      rintro e w9 ⟨a9, cap9, rfl, hpt9, hb9⟩
      have HW9 := Lib.hid (below_on HW8.out hb9)
      have K9 := Lib.hid (K8.out.later hb9)
      have HPT9 := Lib.hid hpt9.1
      have HCL : (cels X1 Y1 X2 Y2).length ≤ 16384 := cels_le _ _ _ _
      have HSC : Hid (segC l n = cels X1 Y1 X2 Y2) := HC
      clear hb9 hpt9 CC K8 HW8 HC
      generalize cels X1 Y1 X2 Y2 = C at *
      go_wp2_with fail
      go_loopw [7] (fun i wr => ∃ m : Nat, m ≤ C.length ∧ i = .int .i64 m ∧ Hid (Below w9.heap.size w9 wr) ∧ Hid ((cx, cy) ∉ C.take m)) (fun i _ => C.length - (intOf i).toNat)
      case atStart => exact ⟨0, by omega, rfl, Lib.hid (Below.refl _ _), Lib.hid (by simp)⟩
      case round =>
        obtain ⟨m, hm, rfl, HV, HZ⟩ := hrel
        by_cases hmt : m < C.length
        · obtain ⟨b9, o9, rfl, -, hc9⟩ := (HPT9.out.later HV.out) (by omega)
          have t1 : wr.cell? ⟨b9, o9 + m * 2, none⟩ = some (.int .i64 C[m].1) := (hc9 m hmt).1
          have t2 : wr.cell? ⟨b9, o9 + m * 2 + 1, none⟩ = some (.int .i64 C[m].2) := (hc9 m hmt).2
          have K10 := Lib.hid (K9.out.later HV.out)
          obtain ⟨c0, c1, -⟩ := K10.out
          have q6 : (0 : Int) ≤ (m : Int) := by omega
          have q7 : (m : Int) < (C.length : Int) := by omega
          have HT := Lib.hid (List.take_succ_eq_append_getElem hmt)
          have HG : Hid (C[m] ∈ C) := Lib.hid (List.getElem_mem hmt)
          have HE : Hid (C[m] = (C[m].1, C[m].2)) := Lib.hid rfl
          generalize C[m] = pp at *
          generalize pp.1 = X at *
          generalize pp.2 = Y at *
          clear hc9
          have HW10 := Lib.hid (below_on HW9.out HV.out)
          go_wp2_with fail
          have L1 := fun m : Later wr => m.cell t1
          have L2 := fun m : Later wr => m.cell t2
          have L3 := fun m : Later wr => m.cell c0
          have L4 := fun m : Later wr => m.cell c1
          by_cases hX : X = cx ∧ Y = cy
          · have HT2 : Hid (R = true) := Lib.hid (HH2.out (n + 1) hlt (hit_succ.2 (.inr (by rw [HSC.out]; have h := HG.out; rw [HE.out, hX.1, hX.2] at h; exact h))))
            obtain ⟨rfl, rfl⟩ := hX
            clear HE HG HT HSC
            refine region_later (by kernel_rfl) (by kernel_rfl) ?_
            iterate 6 (go_big_quiet_want; go_big_quiet_op; go_big_quiet_on)
            refine wpQuiet_nil ?_
            refine later_end ?_
            intro mm
            have HW11 := Lib.hid (G.out.trans ((below_on HW10.out mm.below).mono (by have := G.out.size; have := HSZ.out; omega)))
            clear L1 L2 L3 L4 t1 t2 c0 c1
            go_wp2
            go_ret
            exact ⟨by rw [HT2.out]; rfl, by rw [HSZ.out]; exact HW11.out⟩
          · have HZ2 : Hid ((cx, cy) ∉ C.take (m + 1)) := Lib.hid (by
              rw [HT.out, HE.out, List.mem_append, List.mem_singleton]
              rintro (h | h)
              · exact HZ.out h
              · injection h with h1 h2
                exact hX ⟨h1.symm, h2.symm⟩)
            clear HE HG HT
            refine region_later (by kernel_rfl) (by kernel_rfl) ?_
            iterate 5 (go_big_quiet_want; go_big_quiet_op; go_big_quiet_on)
            go_big_quiet_want
            go_big_quiet_op
            refine ⟨.bool false, fun a => by rw [if2 hX]; exact ⟨rfl, rfl⟩, ?_⟩
            go_big_quiet_on
            refine wpQuiet_nil ?_
            refine later_end ?_
            intro mm
            have HV2 := Lib.hid (below_on HV.out mm.below)
            clear L1 L2 L3 L4 t1 t2 c0 c1
            go_wp2
            go_roundw
            case rel => exact ⟨m + 1, by omega, by go_num, HV2, HZ2⟩
            case measure => simp [intOf] <;> omega
        · have hme : m = C.length := by omega
          have HN2 : Hid (¬ hit l (n + 1) (cx, cy)) := Lib.hid (by
            rw [hit_succ, HSC.out]
            rintro (h | h)
            · exact HN.out h
            · have h2 := HZ.out; rw [hme, List.take_length] at h2; exact h2 h)
          have HW12 := Lib.hid (below_on HW9.out HV.out)
          clear HZ HN HSC hme
          go_wp2
          go_roundw
          case rel => exact ⟨n + 1, by omega, by go_num, HW12, HN2⟩
          case measure => simp [intOf] <;> omega
    · have hne : n = l.length := by omega
      have HR2 : Hid (R = false) := Lib.hid (HM2.out (by rw [← hne]; exact HN.out))
      have G1 := Lib.hid (G.out.trans (HW.out.mono (by have := G.out.size; have := HSZ.out; omega)))
      go_wp2
      go_ret
      exact ⟨by rw [HR2.out]; rfl, by rw [HSZ.out]; exact G1.out⟩
end Go.Proofs.Ytjclioakdmilmaa
end
section
namespace Go.Proofs.Ytjclioakdmilmaa
open Go.RowKit
open Num Ink
set_option linter.unusedVariables false
set_option maxRecDepth 100000 in
set_option maxHeartbeats 4000000 in
theorem tight_any (D : List Dr) (da : Option Addr) (dc : Nat) (w : World) (hD : Drs w w.heap.size da D) (hm : D.length ≤ 30) (hl : ∀ k (hk : k < D.length), D[k].l.length ≤ 40) :
    Calls Try.prog 16 #[.slice da D.length dc] w fun e u => (∃ bb, e = .returned (.bool bb)) ∧ Below w.heap.size w u := by
  have HD := Lib.hid hD
  have HL := Lib.hid hl
  clear hD hl
  go_enter Try.func16, Try.ntmps16
  go_wp2_with fail
  go_loopw [3] (fun i wr => ∃ k : Nat, k ≤ D.length ∧ i = .int .i64 k ∧ Hid (Below w.heap.size w wr)) (fun i _ => D.length - (intOf i).toNat)
  case atStart => exact ⟨0, by omega, rfl, Lib.hid (Below.refl _ _)⟩
  case round =>
    obtain ⟨k, hk, rfl, HW⟩ := hrel
    by_cases hlt : k < D.length
    · have d1 : decide (k < D.length) = true := by simpa using hlt
      have q1 : (0 : Int) ≤ (k : Int) := by omega
      have q2 : (k : Int) < (D.length : Int) := by omega
      obtain ⟨b, off, rfl, hbw, hc⟩ := HD.out (by omega)
      obtain ⟨pa, pc, ⟨-, -, -, -, -, c5', -⟩, hpt'⟩ := hc k hlt
      have hml := HL.out k hlt
      have C5 := Lib.hid c5'
      have HPT := Lib.hid hpt'
      have BW := Lib.hid hbw
      clear hc c5' hpt' hbw
      generalize D[k].l = l at *
      go_upto_region 4 with fail
      go_wp2_with fail
      go_loopw [4] (fun i wq => ∃ j : Nat, j ≤ l.length ∧ i = .int .i64 j ∧ Hid (Below w.heap.size w wq)) (fun i _ => l.length - (intOf i).toNat)
      case atStart => exact ⟨0, by omega, rfl, HW⟩
      case round =>
        obtain ⟨j, hj, rfl, HV⟩ := hrel
        have c5 := (HV.out.cell (p := ⟨b, off + k * 10 + 5, none⟩) BW.out).trans C5.out
        by_cases hjt : j < l.length
        · obtain ⟨pb, o2, rfl, -, hc2⟩ := (HPT.out.old HV.out) (by omega)
          have t1 : wr.cell? ⟨pb, o2 + j * 2, none⟩ = some (.int .i64 l[j].1) := (hc2 j hjt).1
          have t2 : wr.cell? ⟨pb, o2 + j * 2 + 1, none⟩ = some (.int .i64 l[j].2) := (hc2 j hjt).2
          have q3 : (0 : Int) ≤ (j : Int) := by omega
          have q4 : (j : Int) < (l.length : Int) := by omega
          clear hc2
          generalize l[j].1 = X at *
          generalize l[j].2 = Y at *
          go_upto_region 8 with fail
          have kb := Bx.new wr X Y 29
          have bb := below_al wr (.cells #[.int .i64 X, .int .i64 Y] 29)
          have HV2 := Lib.hid (below_on HV.out bb)
          have KB := Lib.hid kb
          clear t1 t2 c5 HV kb bb
          generalize wr.alloc (.cells #[.int .i64 X, .int .i64 Y] 29) = w8 at *
          obtain ⟨c0, c1, -⟩ := KB.out
          by_cases e1 : X < -100
          · have g1 : decide (X < -100) = true := by simpa using e1
            clear e1
            go_wp2_with fail
            go_ret
            exact ⟨⟨_, rfl⟩, HV2.out⟩
          have g1 : decide (X < -100) = false := by simpa using e1
          by_cases e2 : 100 < X
          · have g2 : decide (100 < X) = true := by simpa using e2
            clear e1 e2
            go_wp2_with fail
            go_ret
            exact ⟨⟨_, rfl⟩, HV2.out⟩
          have g2 : decide (100 < X) = false := by simpa using e2
          by_cases e3 : Y < -100
          · have g3 : decide (Y < -100) = true := by simpa using e3
            clear e1 e2 e3
            go_wp2_with fail
            go_ret
            exact ⟨⟨_, rfl⟩, HV2.out⟩
          have g3 : decide (Y < -100) = false := by simpa using e3
          by_cases e4 : 100 < Y
          · have g4 : decide (100 < Y) = true := by simpa using e4
            clear e1 e2 e3 e4
            go_wp2_with fail
            go_ret
            exact ⟨⟨_, rfl⟩, HV2.out⟩
          have g4 : decide (100 < Y) = false := by simpa using e4
          clear e1 e2 e3 e4
          go_wp2_with fail
          go_roundw
          case rel => exact ⟨j + 1, by omega, by go_num, HV2⟩
          case measure => simp [intOf] <;> omega
        · go_wp2
          go_roundw
          case rel => exact ⟨k + 1, by omega, by go_num, HV⟩
          case measure => simp [intOf] <;> omega
    · have d1 : decide (k < D.length) = false := by simpa using hlt
      go_wp2
      go_ret
      exact ⟨⟨_, rfl⟩, HW.out⟩
end Go.Proofs.Ytjclioakdmilmaa
end
section
set_option linter.unusedVariables false
namespace Go.Proofs.Ytjclioakdmilmaa.Ink
open Num
theorem pn_bad {w h : Int} {n : Nat} {D : List Dr} (e : pnE w h n D ≠ 0) : (pnW w h n D = fun _ => 0) ∧ (pnH w h n D = fun _ => 0) ∧ (pnV w h n D = fun _ => []) := by
  unfold pnE at e
  unfold pnW pnH pnV
  cases hs : (sideB w && sideB h)
  · simp
  · rw [hs, if_neg (by simp)] at e
    simp only [Bool.true_eq_false, if_false]
    refine ⟨funext fun i => ?_, funext fun i => ?_, funext fun i => ?_⟩
    · unfold ovW; rw [if_neg e]
    · unfold ovH; rw [if_neg e]
    · unfold ovV; rw [if_neg e]
theorem pn_good {w h : Int} {n : Nat} {D : List Dr} (hn : (sideB w && sideB h) = true → (n : Int) = w * h) (e : pnE w h n D = 0) :
    (1 ≤ w ∧ w ≤ 256) ∧ (1 ≤ h ∧ h ≤ 256) ∧ (n : Int) = w * h ∧ (∀ x ∈ D, x.err = 0) ∧ (pnW w h n D = fun _ => w) ∧ (pnH w h n D = fun _ => h) ∧ (∀ i, i < 4 → (pnV w h n D i).length = n) ∧
      ∀ i, i < 4 → ∀ j (hj : j < n) (hj' : j < (pnV w h n D i).length), (pnV w h n D i)[j] = inkR D (((j % w.toNat : Nat) : Int), ((j / w.toNat : Nat) : Int)) (fun _ => 0) i := by
  unfold pnE at e
  unfold pnW pnH pnV
  cases hs : (sideB w && sideB h)
  · rw [hs, if_pos rfl] at e; omega
  · have hn' := hn hs
    rw [hs, if_neg (by simp)] at e
    simp only [Bool.true_eq_false, if_false]
    rw [Bool.and_eq_true, sideB_iff, sideB_iff] at hs
    obtain ⟨g1, g2, g3⟩ := ov_zero e
    have hD : ∀ x ∈ D, x.err = 0 := fun x hx => by
      obtain ⟨m, hm, rfl⟩ := List.getElem_of_mem hx
      exact firstE_ok g3 m hm
    have eV : ∀ i, ovV (fun _ => w) (fun _ => h) (blk n) D i = (List.range n).map (drwL w.toNat h D (pic (blk n)) i) := fun i => by
      unfold ovV; rw [if_pos e]; simp [blk]
    refine ⟨hs.1, hs.2, hn', hD, funext fun i => ?_, funext fun i => ?_, fun i hi => ?_, fun i hi j hj hj' => ?_⟩
    · unfold ovW; rw [if_pos e]
    · unfold ovH; rw [if_pos e]
    · rw [eV]; simp
    · have hx : (ovV (fun _ => w) (fun _ => h) (blk n) D i)[j] = drwL w.toNat h D (pic (blk n)) i j := by
        simp only [eV, List.getElem_map, List.getElem_range]
      rw [hx, drwL_at w.toNat h hD _ _ _ (by omega) (by
        have : ((w.toNat : Nat) : Int) = w := by omega
        rw [this, ← hn']; omega)]
      have hz : pic (blk n) i j = 0 := by unfold pic blk; simp [hj]
      unfold inkR
      simp only [hz]
end Go.Proofs.Ytjclioakdmilmaa.Ink
end
section
namespace Go.Proofs.Ytjclioakdmilmaa
open Go.RowKit
open Num Ink
set_option linter.unusedVariables false
def Q4 (v : World) (b : Nat) (z : Nat → Int) : Prop := v.cell? ⟨b, 0, none⟩ = some (.int .i64 (z 0)) ∧ v.cell? ⟨b, 1, none⟩ = some (.int .i64 (z 1)) ∧ v.cell? ⟨b, 2, none⟩ = some (.int .i64 (z 2)) ∧ v.cell? ⟨b, 3, none⟩ = some (.int .i64 (z 3)) ∧ ∀ o, v.frozen? ⟨b, o, none⟩ = false
theorem Q4.later {v u : World} {b : Nat} {z : Nat → Int} (h : Q4 v b z) (hb : Below v.heap.size v u) : Q4 u b z :=
  ⟨cell_on h.1 hb, cell_on h.2.1 hb, cell_on h.2.2.1 hb, cell_on h.2.2.2.1 hb, fun o => (hb.frozen (p := ⟨b, o, none⟩) (cell_lt h.1)).trans (h.2.2.2.2 o)⟩
theorem Q4.new (u : World) (t : TypeId) : Q4 (u.alloc (.cells #[.int .i64 0, .int .i64 0, .int .i64 0, .int .i64 0] t)) u.heap.size (fun _ => 0) :=
  ⟨by simp, by simp, by simp, by simp, fun o => by simp⟩
theorem Q4.set {v : World} {b : Nat} {z : Nat → Int} (h : Q4 v b z) (y0 y1 y2 y3 : Int) (y : Nat → Int) (e0 : y0 = y 0) (e1 : y1 = y 1) (e2 : y2 = y 2) (e3 : y3 = y 3) :
    Q4 ((((v.setCell ⟨b, 0, none⟩ (.int .i64 y0)).setCell ⟨b, 1, none⟩ (.int .i64 y1)).setCell ⟨b, 2, none⟩ (.int .i64 y2)).setCell ⟨b, 3, none⟩ (.int .i64 y3)) b y := by
  subst e0 e1 e2 e3
  have o : ∀ (x : World) (i j : Nat) (z : Value), i ≠ j → (x.setCell ⟨b, i, none⟩ z).cell? ⟨b, j, none⟩ = x.cell? ⟨b, j, none⟩ := fun x i j z hij => World.cell?_setCell_other _ _ _ _ (by simp <;> exact hij)
  refine ⟨?_, ?_, ?_, ?_, fun o => by simp [h.2.2.2.2 o]⟩
  · rw [o _ 3 0 _ (by decide), o _ 2 0 _ (by decide), o _ 1 0 _ (by decide)]; exact World.cell?_setCell_same _ _ _ h.1
  · rw [o _ 3 1 _ (by decide), o _ 2 1 _ (by decide)]; exact World.cell?_setCell_same _ _ _ (by rw [o _ 0 1 _ (by decide)]; exact h.2.1)
  · rw [o _ 3 2 _ (by decide)]; exact World.cell?_setCell_same _ _ _ (by rw [o _ 1 2 _ (by decide), o _ 0 2 _ (by decide)]; exact h.2.2.1)
  · exact World.cell?_setCell_same _ _ _ (by rw [o _ 2 3 _ (by decide), o _ 1 3 _ (by decide), o _ 0 3 _ (by decide)]; exact h.2.2.2.1)
theorem below_set4 {B : Nat} {w v : World} {b : Nat} (h : Below B w v) (hb : B ≤ b) (y0 y1 y2 y3 : Value) :
    Below B w ((((v.setCell ⟨b, 0, none⟩ y0).setCell ⟨b, 1, none⟩ y1).setCell ⟨b, 2, none⟩ y2).setCell ⟨b, 3, none⟩ y3) :=
  (((h.setCell (p := ⟨b, 0, none⟩) hb _).setCell (p := ⟨b, 1, none⟩) hb _).setCell (p := ⟨b, 2, none⟩) hb _).setCell (p := ⟨b, 3, none⟩) hb _
theorem eq25s (a b c d : Int) (w : World) : (Op.equalIn 10000 25 (.agg #[.int .i64 a, .int .i64 b, .int .i64 c, .int .i64 d]) (.agg #[.int .i64 a, .int .i64 b, .int .i64 c, .int .i64 d])).run Try.prog w = .ok true w := by
  rw [eq25]; simp
end Go.Proofs.Ytjclioakdmilmaa
end
section
namespace Go.Proofs.Ytjclioakdmilmaa
open Go.RowKit
open Num Ink
set_option linter.unusedVariables false
/-- the error of a list of operations -/
def ckL (D : List Dr) : Int := if 1024 < D.length then 3 else firstE D
set_option maxRecDepth 100000 in
set_option maxHeartbeats 4000000 in
theorem rchecks_any (D : List Dr) (da : Option Addr) (dc : Nat) (w : World) (hD : Drs w w.heap.size da D) (hm : D.length ≤ 100000) (hk : ∀ k (hk : k < D.length), -9223372036854775808 ≤ D[k].k ∧ D[k].k ≤ 9223372036854775807) :
    Calls Try.prog 38 #[.slice da D.length dc] w fun e u => e = .returned (.int .i64 (ckL D)) ∧ Below w.heap.size w u := by
  have HD := Lib.hid hD
  have HK := Lib.hid hk
  have H1 : Hid (1024 < D.length → ckL D = 3) := Lib.hid (fun h => by unfold ckL; rw [if_pos h])
  have H2 : Hid (¬ 1024 < D.length → ckL D = firstE D) := Lib.hid (fun h => by unfold ckL; rw [if_neg h])
  generalize ckL D = R at *
  clear hD hk
  go_enter Try.func38, Try.ntmps38
  go_upto_region 1 with fail
  by_cases hl : 1024 < D.length
  · have d1 : decide ((1024 : Int) < (D.length : Int)) = true := by simp; omega
    have hR := H1.out hl
    subst hR
    clear H1 H2
    go_wp2_with fail
    go_ret
    exact ⟨rfl, Below.refl _ _⟩
  have d1 : decide ((1024 : Int) < (D.length : Int)) = false := by simp; omega
  have HR := Lib.hid (H2.out hl)
  clear H1 H2
  go_wp2_with fail
  go_loopw [3] (fun i wr => ∃ k : Nat, k ≤ D.length ∧ i = .int .i64 k ∧ Hid (Below w.heap.size w wr) ∧ Hid (∀ m (hm : m < D.length), m < k → D[m].err = 0)) (fun i _ => D.length - (intOf i).toNat)
  case atStart => exact ⟨0, by omega, rfl, Lib.hid (Below.refl _ _), Lib.hid (fun m _ h => by omega)⟩
  case round =>
    obtain ⟨k, hk, rfl, HW, HZ⟩ := hrel
    by_cases hlt : k < D.length
    · have d2 : decide (k < D.length) = true := by simpa using hlt
      have q1 : (0 : Int) ≤ (k : Int) := by omega
      have q2 : (k : Int) < (D.length : Int) := by omega
      obtain ⟨b, off, rfl, -, hc⟩ := ((HD.out.old HW.out).le HW.out.size) (by omega)
      obtain ⟨pa, pc, ⟨t0, t1, t2, t3, t4, t5, t6, t7, t8, t9⟩, hpt⟩ := hc k hlt
      have hki := HK.out k hlt
      have HB : Hid (D[k].err ≠ 0 → firstE D = D[k].err) := Lib.hid (fun h => firstE_bad hlt HZ.out h)
      have HG : Hid (D[k].err = 0 → ∀ m (hm : m < D.length), m < k + 1 → D[m].err = 0) := Lib.hid (fun h m hm hmk => by
        by_cases e : m < k
        · exact HZ.out m hm e
        · obtain rfl : m = k := by omega
          exact h)
      clear hc
      generalize D[k] = x at *
      have CC := Lib.hid (rcheck_any x.k x.x0 x.y0 x.x1 x.y1 x.l pa pc x.a x.b x.c x.d wr hki hpt)
      have HE : Hid (x.err = ckE x.k x.x0 x.y0 x.x1 x.y1 x.l x.a x.b x.c x.d) := Lib.hid rfl
      rw [HE.out] at HB HG
      unfold dw at CC
      clear hpt hki HE
      generalize ckE x.k x.x0 x.y0 x.x1 x.y1 x.l x.a x.b x.c x.d = E at *
      go_wp2_with fail
      refine CC.out.mono ?_
      rintro e u ⟨rfl, hb⟩
      have HW2 := Lib.hid (below_on HW.out hb)
      clear hb CC t0 t1 t2 t3 t4 t5 t6 t7 t8 t9
      by_cases hE : E = 0
      · have e1 : (E == 0) = true := by simpa using hE
        have e2 : (E != 0) = false := by simpa using hE
        have HZ2 := Lib.hid (HG.out hE)
        subst hE
        clear HB HG HZ HW
        go_wp2
        go_roundw
        case rel => exact ⟨k + 1, by omega, by go_num, HW2, HZ2⟩
        case measure => simp [intOf] <;> omega
      · have e1 : (E == 0) = false := by simpa using hE
        have e2 : (E != 0) = true := by simpa using hE
        have hR := HR.out.trans (HB.out hE)
        subst hR
        clear HB HG HZ HW hE
        go_wp2
        go_ret
        exact ⟨rfl, HW2.out⟩
    · have d2 : decide (k < D.length) = false := by simpa using hlt
      have hR := HR.out.trans (firstE_good (fun m hm => HZ.out m hm (by omega)))
      subst hR
      go_wp2
      go_ret
      exact ⟨rfl, HW.out⟩
end Go.Proofs.Ytjclioakdmilmaa
end
section
namespace Go.Proofs.Ytjclioakdmilmaa
open Go.RowKit
open Num Ink
set_option linter.unusedVariables false
set_option maxRecDepth 100000 in
set_option maxHeartbeats 4000000 in
theorem inks_any (D : List Dr) (da : Option Addr) (dc : Nat) (cx cy : Int) (z : Nat → Int) (w : World) (hD : Drs w w.heap.size da D) (hm : D.length ≤ 100000) (hk : ∀ k (hk : k < D.length), D[k].l.length ≤ 4096) :
    Calls Try.prog 39 #[.slice da D.length dc, .agg #[.int .i64 cx, .int .i64 cy], .agg #[.int .i64 (z 0), .int .i64 (z 1), .int .i64 (z 2), .int .i64 (z 3)]] w
      fun e u => e = .returned (.agg #[.int .i64 (inkR D (cx, cy) z 0), .int .i64 (inkR D (cx, cy) z 1), .int .i64 (inkR D (cx, cy) z 2), .int .i64 (inkR D (cx, cy) z 3)]) ∧ Below w.heap.size w u := by
  have HK := Lib.hid hk
  have b1 := below_al w (.cells #[.int .i64 cx, .int .i64 cy] 29)
  have k1 := Bx.new w cx cy 29
  have HD := Lib.hid hD
  have HR0 : Hid (∀ i, inkR D (cx, cy) z i = inkR (D.take D.length) (cx, cy) z i) := Lib.hid (fun i => by rw [List.take_length])
  have HST := Lib.hid (fun m hm i => inkR_step D m hm (cx, cy) z i)
  have HZ : Hid (∀ i, inkR (D.take 0) (cx, cy) z i = z i) := Lib.hid (fun i => rfl)
  have s1 : (w.alloc (.cells #[.int .i64 cx, .int .i64 cy] 29)).heap.size = w.heap.size + 1 := by simp
  clear hD hk
  generalize inkR D (cx, cy) z = R at *
  go_enter Try.func39, Try.ntmps39
  go_upto_region 1 with fail
  generalize w.alloc (.cells #[.int .i64 cx, .int .i64 cy] 29) = v1 at *
  have b2 := below_al v1 (.cells #[.int .i64 (z 0), .int .i64 (z 1), .int .i64 (z 2), .int .i64 (z 3)] 25)
  have k2 : Q4 (v1.alloc (.cells #[.int .i64 (z 0), .int .i64 (z 1), .int .i64 (z 2), .int .i64 (z 3)] 25)) v1.heap.size z := ⟨by simp, by simp, by simp, by simp, fun o => by simp⟩
  have s2 : (v1.alloc (.cells #[.int .i64 (z 0), .int .i64 (z 1), .int .i64 (z 2), .int .i64 (z 3)] 25)).heap.size = v1.heap.size + 1 := by simp
  generalize v1.alloc (.cells #[.int .i64 (z 0), .int .i64 (z 1), .int .i64 (z 2), .int .i64 (z 3)] 25) = v2 at *
  have b3 := below_al v2 (.cells #[.int .i64 0, .int .i64 0, .int .i64 0, .int .i64 0] 25)
  have k3 := Q4.new v2 25
  rw [s1] at k2
  rw [s2, s1] at k3
  have K1 := Lib.hid ((k1.later b2).later b3)
  have K2 := Lib.hid (k2.later b3)
  have K3 := Lib.hid k3
  have B0 := below_on (below_on b1 b2) b3
  have G := Lib.hid B0
  have HD3 := Lib.hid ((HD.out.old B0).le B0.size)
  clear b1 b2 b3 s1 s2 k1 k2 k3 B0 HD
  generalize v2.alloc (.cells #[.int .i64 0, .int .i64 0, .int .i64 0, .int .i64 0] 25) = u0 at *
  generalize hsz : w.heap.size = sz at *
  have HSZ := Lib.hid hsz
  clear hsz
  have f1 : wrap64 ((D.length : Int) - 1) = (D.length : Int) - 1 := w64i _ (by omega) (by omega)
  go_wp2_with fail
  go_loopw [7] (fun i wr => ∃ k : Nat, k ≤ D.length ∧ i = .int .i64 ((k : Int) - 1) ∧ Hid (Below u0.heap.size u0 wr) ∧ Hid (∀ i, R i = inkR (D.take k) (cx, cy) z i)) (fun i _ => (intOf i + 1).toNat)
  case atStart => exact ⟨D.length, by omega, rfl, Lib.hid (Below.refl _ _), HR0⟩
  case round =>
    obtain ⟨k, hk, rfl, HW, HI⟩ := hrel
    have KQ := Lib.hid (K3.out.later HW.out)
    obtain ⟨y0, y1, y2, y3, yf⟩ := KQ.out
    have G1 := Lib.hid (G.out.trans (HW.out.mono (by have := G.out.size; have := HSZ.out; omega)))
    by_cases hk0 : k = 0
    · obtain rfl := hk0
      have e : (((0 : Nat) : Int) - 1) = -1 := rfl
      rw [e]
      have HE : Hid (R = z) := Lib.hid (funext fun i => by rw [HI.out i, HZ.out i])
      obtain ⟨x0, x1, x2, x3, -⟩ := K2.out.later HW.out
      have B3 := Lib.hid (below_set4 G1.out (b := sz + 1 + 1) (by omega) (.int .i64 (z 0)) (.int .i64 (z 1)) (.int .i64 (z 2)) (.int .i64 (z 3)))
      have QF := Lib.hid (KQ.out.set (z 0) (z 1) (z 2) (z 3) z rfl rfl rfl rfl)
      go_wp2_with fail
      generalize ((((wr.setCell ⟨sz + 1 + 1, 0, none⟩ (.int .i64 (z 0))).setCell ⟨sz + 1 + 1, 1, none⟩ (.int .i64 (z 1))).setCell ⟨sz + 1 + 1, 2, none⟩ (.int .i64 (z 2))).setCell ⟨sz + 1 + 1, 3, none⟩ (.int .i64 (z 3))) = wz at *
      obtain ⟨g0, g1, g2, g3, -⟩ := QF.out
      exact bodyPost_ret (v := .agg #[.int .i64 (z 0), .int .i64 (z 1), .int .i64 (z 2), .int .i64 (z 3)]) (by simp [results, Try.results39, go_sem, g0, g1, g2, g3]) rfl ⟨by rw [HE.out], by rw [HSZ.out]; exact B3.out⟩
    · obtain ⟨j, rfl⟩ : ∃ j, k = j + 1 := ⟨k - 1, by omega⟩
      have e : (((j + 1 : Nat) : Int) - 1) = (j : Int) := by omega
      rw [e]
      have hjt : j < D.length := by omega
      obtain ⟨b, off, rfl, -, hc⟩ := ((HD3.out.old HW.out).le HW.out.size) (by omega)
      obtain ⟨pa, pc, hdw, hpt⟩ := hc j hjt
      have HS := Lib.hid (fun i => (HI.out i).trans (HST.out j hjt i))
      have hl40 := HK.out j hjt
      clear hc
      generalize D[j] = x at *
      have CV : Hid (∀ nn : Later wr, Calls Try.prog 23 #[dw x.k x.x0 x.y0 x.x1 x.y1 (.slice pa x.l.length pc) x.a x.b x.c x.d, .agg #[.int .i64 cx, .int .i64 cy]] nn.wd fun e w' => e = .returned (.bool (x.cov (cx, cy))) ∧ Below nn.wd.heap.size nn.wd w') := Lib.hid (fun nn => rCovers_any x.k x.x0 x.y0 x.x1 x.y1 x.l pa pc x.a x.b x.c x.d _ _ nn.wd hl40 (hpt.later nn.below))
      unfold dw at CV
      generalize x.cov (cx, cy) = cb at *
      obtain ⟨t0, t1, t2, t3, t4, t5, t6, t7, t8, t9⟩ := hdw
      obtain ⟨c0, c1, -⟩ := K1.out.later HW.out
      have q1 : (0 : Int) ≤ (j : Int) := by omega
      have q2 : (j : Int) < (D.length : Int) := by omega
      go_upto_region 4 with fail
      have L0 := fun mm : Later wr => mm.cell t0
      have L1 := fun mm : Later wr => mm.cell t1
      have L2 := fun mm : Later wr => mm.cell t2
      have L3 := fun mm : Later wr => mm.cell t3
      have L4 := fun mm : Later wr => mm.cell t4
      have L5 := fun mm : Later wr => mm.cell t5
      have L6 := fun mm : Later wr => mm.cell t6
      have L7 := fun mm : Later wr => mm.cell t7
      have L8 := fun mm : Later wr => mm.cell t8
      have L9 := fun mm : Later wr => mm.cell t9
      have L10 := fun mm : Later wr => mm.cell c0
      have L11 := fun mm : Later wr => mm.cell c1
      refine region_later (by kernel_rfl) (by kernel_rfl) ?_
      iterate 5 (go_big_quiet_want; go_big_quiet_op; go_big_quiet_on)
      go_big_quiet_want
      go_big_quiet_op
      apply Exists.intro
      refine ⟨fun nn => ?_, ?_⟩
      · exact later_of (CV.out nn)
      go_big_quiet_on
      refine wpQuiet_nil ?_
      refine later_end ?_
      intro mm
      have HW2 := Lib.hid (below_on HW.out mm.below)
      have KQ2 := Lib.hid (KQ.out.later mm.below)
      have G2 := Lib.hid (G1.out.trans (mm.below.mono (by have := G1.out.size; have := HSZ.out; omega)))
      have L6 := L6 mm
      have L7 := L7 mm
      have L8 := L8 mm
      have L9 := L9 mm
      clear L0 L1 L2 L3 L4 L5 L10 L11 t0 t1 t2 t3 t4 t5 t6 t7 t8 t9 c0 c1 CV HW KQ G1 hpt y0 y1 y2 y3 yf
      generalize mm.wd = w12 at *
      clear mm
      cases cb
      · have HI2 : Hid (∀ i, R i = inkR (D.take j) (cx, cy) z i) := Lib.hid (fun i => by rw [HS.out i, if_neg (by simp)])
        clear L6 L7 L8 L9 HS KQ2 HI
        have f2 : wrap64 ((j : Int) - 1) = (j : Int) - 1 := w64i _ (by omega) (by omega)
        go_wp2
        go_roundw
        case rel => exact ⟨j, by omega, rfl, HW2, HI2⟩
        case measure => simp [intOf] <;> omega
      · have HE : Hid (∀ i, R i = x.ink i) := Lib.hid (fun i => by rw [HS.out i, if_pos rfl])
        obtain ⟨y0, y1, y2, y3, yf⟩ := KQ2.out
        have B3 := Lib.hid (below_set4 G2.out (b := sz + 1 + 1) (by omega) (.int .i64 x.a) (.int .i64 x.b) (.int .i64 x.c) (.int .i64 x.d))
        have QF := Lib.hid (KQ2.out.set x.a x.b x.c x.d x.ink rfl rfl rfl rfl)
        clear HS HI
        go_wp2_with fail
        generalize ((((w12.setCell ⟨sz + 1 + 1, 0, none⟩ (.int .i64 (x.a))).setCell ⟨sz + 1 + 1, 1, none⟩ (.int .i64 (x.b))).setCell ⟨sz + 1 + 1, 2, none⟩ (.int .i64 (x.c))).setCell ⟨sz + 1 + 1, 3, none⟩ (.int .i64 (x.d))) = wz at *
        obtain ⟨g0, g1, g2, g3, -⟩ := QF.out
        exact bodyPost_ret (v := .agg #[.int .i64 (x.ink 0), .int .i64 (x.ink 1), .int .i64 (x.ink 2), .int .i64 (x.ink 3)]) (by simp [results, Try.results39, go_sem, g0, g1, g2, g3]) rfl ⟨by rw [HE.out 0, HE.out 1, HE.out 2, HE.out 3], by rw [HSZ.out]; exact B3.out⟩
end Go.Proofs.Ytjclioakdmilmaa
end
section
namespace Go.Proofs.Ytjclioakdmilmaa
open Go.RowKit
open Num Ink
set_option linter.unusedVariables false
theorem fl_div {W H : Int} {n : Nat} (hW : ¬ W = 0) (h : (n : Int) % W = 0) : (W * H = (n : Int)) ↔ (n : Int) / W = H := by
  have e := Int.mul_ediv_add_emod (n : Int) W
  rw [h, Int.add_zero] at e
  constructor
  · intro h1; rw [← h1]; exact Int.mul_ediv_cancel_left H hW
  · intro h1; rw [← h1]; exact e
theorem fl_mod {W H : Int} {n : Nat} (h : ¬ (n : Int) % W = 0) : ¬ W * H = (n : Int) := fun e => h (by rw [← e]; exact Int.mul_emod_right W H)
theorem fl_bd {W : Int} {n : Nat} (hn : n ≤ 65536) : -65536 ≤ (n : Int) / W ∧ (n : Int) / W ≤ 65536 := by
  have h := Int.natAbs_ediv_le_natAbs (n : Int) W
  omega
set_option maxRecDepth 100000 in
set_option maxHeartbeats 4000000 in
theorem filled_any (W H : Int) (a : Option Addr) (n c : Nat) (w : World) (hn : n ≤ 65536) :
    Calls Try.prog 44 #[.agg #[.int .i64 W, .int .i64 H, .slice a n c]] w fun e u => e = .returned (.bool (decide (W * H = (n : Int)))) ∧ Below w.heap.size w u := by
  have G := Lib.hid (below_al w (.cells #[.int .i64 W, .int .i64 H, .slice a n c] 40))
  have c0 : (w.alloc (.cells #[.int .i64 W, .int .i64 H, .slice a n c] 40)).cell? ⟨w.heap.size, 0, none⟩ = some (.int .i64 W) := by simp
  have c1 : (w.alloc (.cells #[.int .i64 W, .int .i64 H, .slice a n c] 40)).cell? ⟨w.heap.size, 1, none⟩ = some (.int .i64 H) := by simp
  have c2 : (w.alloc (.cells #[.int .i64 W, .int .i64 H, .slice a n c] 40)).cell? ⟨w.heap.size, 2, none⟩ = some (.slice a n c) := by simp
  have HR : Hid (∀ b, (W * H = (n : Int) ↔ b = true) → decide (W * H = (n : Int)) = b) := Lib.hid (fun b h => by cases b <;> simp [h])
  have FD := Lib.hid (fun h1 h2 => fl_div (W := W) (H := H) (n := n) h1 h2)
  have FM := Lib.hid (fun h => fl_mod (W := W) (H := H) (n := n) h)
  have FB := fl_bd (W := W) (n := n) hn
  generalize decide (W * H = (n : Int)) = R at *
  go_enter Try.func44, Try.ntmps44
  go_upto_region 1 with fail
  generalize w.alloc (.cells #[.int .i64 W, .int .i64 H, .slice a n c] 40) = v1 at *
  by_cases hW : W = 0
  · have d1 : (W == 0) = true := by simpa using hW
    have HR2 : Hid (R = ((n : Int) == 0)) := Lib.hid (HR.out _ (by rw [hW]; simp; omega))
    clear HR FD FM hW
    go_wp2_with fail
    go_ret
    exact ⟨by rw [HR2.out]; rfl, G.out⟩
  have d1 : (W == 0) = false := by simpa using hW
  by_cases hH : H = 0
  · have d2 : (H == 0) = true := by simpa using hH
    have HR2 : Hid (R = ((n : Int) == 0)) := Lib.hid (HR.out _ (by rw [hH]; simp; omega))
    clear HR FD FM hH
    go_wp2_with fail
    go_ret
    exact ⟨by rw [HR2.out]; rfl, G.out⟩
  have d2 : (H == 0) = false := by simpa using hH
  by_cases h0 : n = 0
  · have d3 : ((n : Int) == 0) = true := by simpa using h0
    have HR2 : Hid (R = false) := Lib.hid (HR.out _ (by rw [h0]; simp [hW, hH]))
    clear HR FD FM h0
    go_wp2_with fail
    go_ret
    exact ⟨by rw [HR2.out]; rfl, G.out⟩
  have d3 : ((n : Int) == 0) = false := by simpa using h0
  have hW' : ¬ W = 0 := hW
  by_cases hm : (n : Int) % W = 0
  · have HR2 : Hid (R = ((n : Int) / W == H)) := Lib.hid (HR.out _ (by rw [FD.out hW hm]; simp))
    have f1 : wrap64 ((n : Int) / W) = (n : Int) / W := w64i _ (by omega) (by omega)
    have d4 : ((n : Int) % W == 0) = true := by simpa using hm
    have d5 : ((n : Int) % W != 0) = false := by simpa using hm
    clear HR FD FM
    go_upto_region 6 with fail
    have L0 := fun m : Later v1 => m.cell c0
    have L1 := fun m : Later v1 => m.cell c1
    refine region_later (by kernel_rfl) (by kernel_rfl) ?_
    iterate 8 (go_big_quiet_want; go_big_quiet_op; go_big_quiet_on)
    refine wpQuiet_nil ?_
    refine later_end ?_
    intro mm
    have G2 := Lib.hid (below_on G.out mm.below)
    clear L0 L1 c0 c1 c2
    generalize mm.wd = w3 at *
    clear mm
    go_wp2
    go_ret
    exact ⟨by rw [HR2.out]; rfl, G2.out⟩
  · have d4 : ((n : Int) % W == 0) = false := by simpa using hm
    have d5 : ((n : Int) % W != 0) = true := by simpa using hm
    have HR2 : Hid (R = false) := Lib.hid (HR.out _ (by simp [FM.out hm]))
    clear HR FD FM
    go_wp2_with fail
    go_ret
    exact ⟨by rw [HR2.out]; rfl, G.out⟩
end Go.Proofs.Ytjclioakdmilmaa
end
section
namespace Go.Proofs.Ytjclioakdmilmaa
open Go.RowKit
open Num Ink
set_option linter.unusedVariables false
set_option maxRecDepth 100000 in
set_option maxHeartbeats 8000000 in
theorem rsound_any (ws hs : Nat → Int) (vs : Nat → List Int) (ad : Nat → Option Addr) (cp : Nat → Nat) (w : World) (hN : Ns4 w ad vs) (hl : ∀ i, i < 4 → (vs i).length ≤ 65536) :
    Calls Try.prog 37 #[pl4 ws hs fun i => .slice (ad i) (vs i).length (cp i)] w fun e u => e = .returned (.int .i64 (errP ws hs vs)) ∧ Below w.heap.size w u := by
  have HL := Lib.hid hl
  unfold pl4
  have b1 := below_al w (.cells #[.int .i64 (ws 0), .int .i64 (hs 0), .slice (ad 0) (vs 0).length (cp 0), .int .i64 (ws 1), .int .i64 (hs 1), .slice (ad 1) (vs 1).length (cp 1), .int .i64 (ws 2), .int .i64 (hs 2), .slice (ad 2) (vs 2).length (cp 2), .int .i64 (ws 3), .int .i64 (hs 3), .slice (ad 3) (vs 3).length (cp 3)] 41)
  have XP := Lib.hid (P12.new w ws hs ad cp vs 41)
  have XN := Lib.hid (hN.later b1)
  have G := Lib.hid b1
  have HA : Hid (∀ i, i < 4 → armP ws hs vs i = false → errP ws hs vs = 1) := Lib.hid (fun i hi h => by unfold errP; rw [if_pos (all4_false hi h)])
  have HB : Hid ((∀ i, i < 4 → armP ws hs vs i = true) → errP ws hs vs = if (sideB (ws 0) && sideB (hs 0)) = false then 2 else if (all4 fun i => okL (vs i)) = false then 2 else 0) := Lib.hid (fun h => by unfold errP; rw [if_neg (by rw [all4_true h]; simp)])
  generalize errP ws hs vs = R at *
  clear hN hl b1
  go_enter Try.func37, Try.ntmps37
  go_upto_region 1 with fail
  generalize w.alloc (.cells #[.int .i64 (ws 0), .int .i64 (hs 0), .slice (ad 0) (vs 0).length (cp 0), .int .i64 (ws 1), .int .i64 (hs 1), .slice (ad 1) (vs 1).length (cp 1), .int .i64 (ws 2), .int .i64 (hs 2), .slice (ad 2) (vs 2).length (cp 2), .int .i64 (ws 3), .int .i64 (hs 3), .slice (ad 3) (vs 3).length (cp 3)] 41) = v1 at *
  go_wp2_with fail
  go_loopw [3] (fun i wr => ∃ k : Nat, k ≤ 4 ∧ i = .int .i64 k ∧ Hid (Below v1.heap.size v1 wr) ∧ Hid (∀ m, m < k → armP ws hs vs m = true)) (fun i _ => 4 - (intOf i).toNat)
  case atStart => exact ⟨0, by omega, rfl, Lib.hid (Below.refl _ _), Lib.hid (fun m h => by omega)⟩
  case round =>
    obtain ⟨k, hk, rfl, HW, HZ⟩ := hrel
    have XP1 := Lib.hid (XP.out.later HW.out)
    have G1 := Lib.hid (below_on G.out HW.out)
    by_cases hlt : k < 4
    · obtain ⟨c0, c1, c2⟩ := p12_at XP1.out hlt
      obtain ⟨h0, h1, -⟩ := XP1.out
      have hlk := HL.out k hlt
      have HA1 := Lib.hid (HA.out k hlt)
      have HZ1 : Hid (armP ws hs vs k = true → ∀ m, m < k + 1 → armP ws hs vs m = true) := Lib.hid (fun h m hm => by
        by_cases e : m < k
        · exact HZ.out m e
        · obtain rfl : m = k := by omega
          exact h)
      have HP : Hid (armP ws hs vs k = ((decide (ws k = ws 0) && decide (hs k = hs 0)) && decide (ws k * hs k = ((vs k).length : Int)))) := Lib.hid rfl
      rw [HP.out] at HA1 HZ1
      have FC := Lib.hid (fun v => filled_any (ws k) (hs k) (ad k) (vs k).length (cp k) v hlk)
      have q1 : (0 : Int) ≤ (k : Int) := by omega
      have q2 : (k : Int) < 4 := by omega
      clear HP XP1
      generalize (vs k).length = n at *
      generalize ad k = ak at *
      generalize cp k = ck at *
      generalize ws k = wk at *
      generalize hs k = hk' at *
      generalize ws 0 = w0 at *
      generalize hs 0 = h0' at *
      go_upto_region 4 with fail
      have L0 := fun m : Later wr => m.cell c0
      have L1 := fun m : Later wr => m.cell c1
      have L2 := fun m : Later wr => m.cell c2
      have L3 := fun m : Later wr => m.cell h0
      have L4 := fun m : Later wr => m.cell h1
      by_cases e1 : wk = w0
      · have d1 : (wk != w0) = false := by simpa using e1
        by_cases e2 : hk' = h0'
        · have d2 : (hk' != h0') = false := by simpa using e2
          have HA2 : Hid (decide (wk * hk' = (n : Int)) = false → R = 1) := Lib.hid (fun h => HA1.out (by rw [h]; simp))
          have HZ2 : Hid (decide (wk * hk' = (n : Int)) = true → ∀ m, m < k + 1 → armP ws hs vs m = true) := Lib.hid (fun h => HZ1.out (by rw [h]; simp [e1, e2]))
          clear HA1 HZ1 e1 e2
          generalize decide (wk * hk' = (n : Int)) = fb at *
          refine region_later (by kernel_rfl) (by kernel_rfl) ?_
          iterate 22 (go_big_quiet_want; go_big_quiet_op; go_big_quiet_on)
          (go_big_quiet_want; go_big_quiet_op; go_big_quiet_call (exact later_of (FC.out _)))
          iterate 2 (go_big_quiet_want; go_big_quiet_op; go_big_quiet_on)
          refine wpQuiet_nil ?_
          refine later_end ?_
          intro mm
          have HW2 := Lib.hid (below_on HW.out mm.below)
          have G2 := Lib.hid (below_on G.out HW2.out)
          clear L0 L1 L2 L3 L4 c0 c1 c2 h0 h1 FC HW G1
          generalize mm.wd = w3 at *
          clear mm
          cases fb
          · have hR := HA2.out rfl
            subst hR
            clear HA2 HZ2 HA HB
            go_wp2
            go_ret
            exact ⟨rfl, G2.out⟩
          · have HZ3 := Lib.hid (HZ2.out rfl)
            clear HA2 HZ2
            go_wp2
            go_roundw
            case rel => exact ⟨k + 1, by omega, by go_num, HW2, HZ3⟩
            case measure => simp [intOf] <;> omega
        · have d2 : (hk' != h0') = true := by simpa using e2
          have hR := HA1.out (by simp [e2])
          subst hR
          clear HA1 HZ1 e1 e2 HA HB
          refine region_later (by kernel_rfl) (by kernel_rfl) ?_
          iterate 19 (go_big_quiet_want; go_big_quiet_op; go_big_quiet_on)
          iterate 5 go_big_quiet_skip
          iterate 1 (go_big_quiet_want; go_big_quiet_op; go_big_quiet_on)
          refine wpQuiet_nil ?_
          refine later_end ?_
          intro mm
          have G2 := Lib.hid (below_on G1.out mm.below)
          clear L0 L1 L2 L3 L4 c0 c1 c2 h0 h1 FC HW G1
          generalize mm.wd = w3 at *
          clear mm
          go_wp2
          go_ret
          exact ⟨rfl, G2.out⟩
      · have d1 : (wk != w0) = true := by simpa using e1
        have hR := HA1.out (by simp [e1])
        subst hR
        clear HA1 HZ1 e1 HA HB
        refine region_later (by kernel_rfl) (by kernel_rfl) ?_
        iterate 9 (go_big_quiet_want; go_big_quiet_op; go_big_quiet_on)
        iterate 8 go_big_quiet_skip
        iterate 2 (go_big_quiet_want; go_big_quiet_op; go_big_quiet_on)
        iterate 5 go_big_quiet_skip
        iterate 1 (go_big_quiet_want; go_big_quiet_op; go_big_quiet_on)
        refine wpQuiet_nil ?_
        refine later_end ?_
        intro mm
        have G2 := Lib.hid (below_on G1.out mm.below)
        clear L0 L1 L2 L3 L4 c0 c1 c2 h0 h1 FC HW G1
        generalize mm.wd = w3 at *
        clear mm
        go_wp2
        go_ret
        exact ⟨rfl, G2.out⟩
    · have HE := Lib.hid (HB.out (fun i hi => HZ.out i (by omega)))
      clear HA HB HZ
      obtain ⟨h0, h1, -⟩ := XP1.out
      go_upto_region 6 with fail
      have HS : Hid ((sideB (ws 0) && sideB (hs 0)) = false → R = 2) := Lib.hid (fun h => HE.out.trans (if_pos h))
      have HT : Hid ((sideB (ws 0) && sideB (hs 0)) = true → R = if (all4 fun i => okL (vs i)) = false then 2 else 0) := Lib.hid (fun h => HE.out.trans (if_neg (by rw [h]; simp)))
      have S1 := Lib.hid (sideB_iff (ws 0))
      have S2 := Lib.hid (sideB_iff (hs 0))
      clear HE
      by_cases e1 : ws 0 < 1
      · have d1 : decide (ws 0 < 1) = true := by simpa using e1
        have hR := HS.out (by cases h : sideB (ws 0)
                              · rfl
                              · have := S1.out.1 h; omega)
        subst hR
        clear HS HT S1 S2 e1
        go_wp2_with fail
        go_ret
        exact ⟨rfl, G1.out⟩
      have d1 : decide (ws 0 < 1) = false := by simpa using e1
      by_cases e2 : 256 < ws 0
      · have d2 : decide (256 < ws 0) = true := by simpa using e2
        have hR := HS.out (by cases h : sideB (ws 0)
                              · rfl
                              · have := S1.out.1 h; omega)
        subst hR
        clear HS HT S1 S2 e1 e2
        go_wp2_with fail
        go_ret
        exact ⟨rfl, G1.out⟩
      have d2 : decide (256 < ws 0) = false := by simpa using e2
      by_cases e3 : hs 0 < 1
      · have d3 : decide (hs 0 < 1) = true := by simpa using e3
        have hR := HS.out (by cases h : sideB (hs 0)
                              · simp
                              · have := S2.out.1 h; omega)
        subst hR
        clear HS HT S1 S2 e1 e2 e3
        go_wp2_with fail
        go_ret
        exact ⟨rfl, G1.out⟩
      have d3 : decide (hs 0 < 1) = false := by simpa using e3
      by_cases e4 : 256 < hs 0
      · have d4 : decide (256 < hs 0) = true := by simpa using e4
        have hR := HS.out (by cases h : sideB (hs 0)
                              · simp
                              · have := S2.out.1 h; omega)
        subst hR
        clear HS HT S1 S2 e1 e2 e3 e4
        go_wp2_with fail
        go_ret
        exact ⟨rfl, G1.out⟩
      have d4 : decide (256 < hs 0) = false := by simpa using e4
      have HR := Lib.hid (HT.out (by rw [S1.out.2 (by omega), S2.out.2 (by omega)]; rfl))
      have HF : Hid (∀ i, i < 4 → okL (vs i) = false → R = 2) := Lib.hid (fun i hi h => HR.out.trans (if_pos (all4_false hi h)))
      have HG : Hid ((∀ i, i < 4 → okL (vs i) = true) → R = 0) := Lib.hid (fun h => HR.out.trans (if_neg (by rw [all4_true h]; simp)))
      clear HS HT S1 S2 e1 e2 e3 e4 HR
      go_upto_region 8 with fail
      clear h0 h1 d1 d2 d3 d4
      go_wp2_with fail
      go_loopw [4] (fun i wq => ∃ k : Nat, k ≤ 4 ∧ i = .int .i64 k ∧ wr = wq ∧ Hid (∀ m, m < k → okL (vs m) = true)) (fun i _ => 4 - (intOf i).toNat)
      case atStart => exact ⟨0, by omega, rfl, rfl, Lib.hid (fun m h => by omega)⟩
      case round =>
        obtain ⟨k2, hk2, rfl, rfl, HZ⟩ := hrel
        by_cases hlt2 : k2 < 4
        · obtain ⟨-, -, c2⟩ := p12_at XP1.out hlt2
          have NK := Lib.hid (XN.out.later HW.out k2 hlt2)
          have hlk := HL.out k2 hlt2
          have HF1 := Lib.hid (HF.out k2 hlt2)
          have HZ1 : Hid (okL (vs k2) = true → ∀ m, m < k2 + 1 → okL (vs m) = true) := Lib.hid (fun h m hm => by
            by_cases e : m < k2
            · exact HZ.out m e
            · obtain rfl : m = k2 := by omega
              exact h)
          have q1 : (0 : Int) ≤ (k2 : Int) := by omega
          have q2 : (k2 : Int) < 4 := by omega
          clear HZ XP1
          generalize vs k2 = l at *
          generalize ad k2 = ak at *
          generalize cp k2 = ck at *
          go_wp2_with fail
          go_loopw [5] (fun i wq => ∃ j : Nat, j ≤ l.length ∧ i = .int .i64 j ∧ wr = wq ∧ Hid (∀ m (hm : m < l.length), m < j → okI l[m] = true)) (fun i _ => l.length - (intOf i).toNat)
          case atStart => exact ⟨0, by omega, rfl, rfl, Lib.hid (fun m _ h => by omega)⟩
          case round =>
            obtain ⟨j, hj, rfl, rfl, HY⟩ := hrel
            by_cases hjt : j < l.length
            · obtain ⟨b2, o2, rfl, -, g2⟩ := NK.out (by omega)
              have u2 : _ = some (Value.int .i64 l[j]) := g2 j hjt
              have q3 : (0 : Int) ≤ (j : Int) := by omega
              have q4 : (j : Int) < (l.length : Int) := by omega
              have HF2 : Hid (okI l[j] = false → R = 2) := Lib.hid (fun h => HF1.out (okL_false hjt h))
              have HY1 : Hid (okI l[j] = true → ∀ m (hm : m < l.length), m < j + 1 → okI l[m] = true) := Lib.hid (fun h m hm hmj => by
                by_cases e : m < j
                · exact HY.out m hm e
                · obtain rfl : m = j := by omega
                  exact h)
              clear g2
              generalize l[j] = z at *
              by_cases e1 : z < 0
              · have d1 : decide (z < 0) = true := by simpa using e1
                have hR := HF2.out (by unfold okI; simp; omega)
                subst hR
                clear HF HF1 HF2 HG HY HY1 e1
                go_wp2_with fail
                go_ret
                exact ⟨rfl, G1.out⟩
              have d1 : decide (z < 0) = false := by simpa using e1
              by_cases e2 : 100 < z
              · have d2 : decide (100 < z) = true := by simpa using e2
                have hR := HF2.out (by unfold okI; simp; omega)
                subst hR
                clear HF HF1 HF2 HG HY HY1 e1 e2
                go_wp2_with fail
                go_ret
                exact ⟨rfl, G1.out⟩
              have d2 : decide (100 < z) = false := by simpa using e2
              have HY2 := Lib.hid (HY1.out (by unfold okI; simp; omega))
              clear HF2 HY HY1 e1 e2
              go_wp2_with fail
              go_roundw
              case rel => exact ⟨j + 1, by omega, by go_num, trivial, HY2⟩
              case measure => simp [intOf] <;> omega
            · have HZ2 := Lib.hid (HZ1.out (okL_true (fun m hm => HY.out m hm (by omega))))
              clear HZ1 HY HF1
              go_wp2_with fail
              go_roundw
              case rel => exact ⟨k2 + 1, by omega, by go_num, trivial, HZ2⟩
              case measure => simp [intOf] <;> omega
        · have hR := HG.out (fun i hi => HZ.out i (by omega))
          subst hR
          go_wp2_with fail
          go_ret
          exact ⟨rfl, G1.out⟩
end Go.Proofs.Ytjclioakdmilmaa
end
section
namespace Go.Proofs.Ytjclioakdmilmaa
open Go.RowKit
open Num Ink
set_option linter.unusedVariables false
set_option maxRecDepth 100000 in
set_option maxHeartbeats 8000000 in
theorem small_any (ws hs : Nat → Int) (vs : Nat → List Int) (ad : Nat → Option Addr) (cp : Nat → Nat) (w : World) :
    Calls Try.prog 20 #[pl4 ws hs fun i => .slice (ad i) (vs i).length (cp i)] w fun e u => (∃ bb, e = .returned (.bool bb) ∧ (bb = true → ∀ i, i < 4 → ws i ≤ 20 ∧ hs i ≤ 20 ∧ (vs i).length ≤ 400)) ∧ Below w.heap.size w u := by
  unfold pl4
  have b1 := below_al w (.cells #[.int .i64 (ws 0), .int .i64 (hs 0), .slice (ad 0) (vs 0).length (cp 0), .int .i64 (ws 1), .int .i64 (hs 1), .slice (ad 1) (vs 1).length (cp 1), .int .i64 (ws 2), .int .i64 (hs 2), .slice (ad 2) (vs 2).length (cp 2), .int .i64 (ws 3), .int .i64 (hs 3), .slice (ad 3) (vs 3).length (cp 3)] 41)
  have XP := Lib.hid (P12.new w ws hs ad cp vs 41)
  have G := Lib.hid b1
  clear b1
  go_enter Try.func20, Try.ntmps20
  go_upto_region 1 with fail
  generalize w.alloc (.cells #[.int .i64 (ws 0), .int .i64 (hs 0), .slice (ad 0) (vs 0).length (cp 0), .int .i64 (ws 1), .int .i64 (hs 1), .slice (ad 1) (vs 1).length (cp 1), .int .i64 (ws 2), .int .i64 (hs 2), .slice (ad 2) (vs 2).length (cp 2), .int .i64 (ws 3), .int .i64 (hs 3), .slice (ad 3) (vs 3).length (cp 3)] 41) = v1 at *
  go_wp2_with fail
  go_loopw [3] (fun i wr => ∃ k : Nat, k ≤ 4 ∧ i = .int .i64 k ∧ v1 = wr ∧ Hid (∀ m, m < k → ws m ≤ 20 ∧ hs m ≤ 20 ∧ (vs m).length ≤ 400)) (fun i _ => 4 - (intOf i).toNat)
  case atStart => exact ⟨0, by omega, rfl, rfl, Lib.hid (fun m h => by omega)⟩
  case round =>
    obtain ⟨k, hk, rfl, rfl, HZ⟩ := hrel
    by_cases hlt : k < 4
    · obtain ⟨c0, c1, c2⟩ := p12_at XP.out hlt
      have HZ1 : Hid (ws k ≤ 20 ∧ hs k ≤ 20 ∧ (vs k).length ≤ 400 → ∀ m, m < k + 1 → ws m ≤ 20 ∧ hs m ≤ 20 ∧ (vs m).length ≤ 400) := Lib.hid (fun h m hm => by
        by_cases e : m < k
        · exact HZ.out m e
        · obtain rfl : m = k := by omega
          exact h)
      have q1 : (0 : Int) ≤ (k : Int) := by omega
      have q2 : (k : Int) < 4 := by omega
      clear HZ XP
      generalize (vs k).length = n at *
      generalize ad k = ak at *
      generalize cp k = ck at *
      generalize ws k = wk at *
      generalize hs k = hk' at *
      by_cases e1 : 20 < wk
      · have d1 : decide (20 < wk) = true := by simpa using e1
        clear e1
        go_wp2_with fail
        go_ret
        exact ⟨⟨_, rfl, fun h => absurd h (by decide)⟩, G.out⟩
      have d1 : decide (20 < wk) = false := by simpa using e1
      by_cases e2 : 20 < hk'
      · have d2 : decide (20 < hk') = true := by simpa using e2
        clear e1 e2
        go_wp2_with fail
        go_ret
        exact ⟨⟨_, rfl, fun h => absurd h (by decide)⟩, G.out⟩
      have d2 : decide (20 < hk') = false := by simpa using e2
      by_cases e3 : 400 < n
      · have d3 : decide ((400 : Int) < (n : Int)) = true := by simp; omega
        clear e1 e2 e3
        go_wp2_with fail
        go_ret
        exact ⟨⟨_, rfl, fun h => absurd h (by decide)⟩, G.out⟩
      have d3 : decide ((400 : Int) < (n : Int)) = false := by simp; omega
      have HZ2 := Lib.hid (HZ1.out ⟨by omega, by omega, by omega⟩)
      clear HZ1 e1 e2 e3
      go_wp2_with fail
      go_roundw
      case rel => exact ⟨k + 1, by omega, by go_num, trivial, HZ2⟩
      case measure => simp [intOf] <;> omega
    · go_wp2_with fail
      go_ret
      exact ⟨⟨_, rfl, fun _ i hi => HZ.out i (by omega)⟩, G.out⟩
end Go.Proofs.Ytjclioakdmilmaa
end
section
namespace Go.Proofs.Ytjclioakdmilmaa
open Go.RowKit
open Num Ink
set_option linter.unusedVariables false
def upd {α : Type} (f : Nat → α) (i : Nat) (x : α) : Nat → α := fun k => if k = i then x else f k
theorem upd_same {α : Type} (f : Nat → α) (i : Nat) (x : α) : upd f i x i = x := if_pos rfl
theorem upd_other {α : Type} (f : Nat → α) {i k : Nat} (x : α) (h : k ≠ i) : upd f i x k = f k := if_neg h
/-- the plates so far: block g holds them, their cells are the call's own rows -/
structure Ot (v : World) (g : Nat) (W H : Int) (a : Nat → Option Addr) (c : Nat → Nat) (xs : Nat → List Int) : Prop where
  wd : ∀ i, i < 4 → v.cell? ⟨g, i * 3, none⟩ = some (.int .i64 W)
  ht : ∀ i, i < 4 → v.cell? ⟨g, i * 3 + 1, none⟩ = some (.int .i64 H)
  sl : ∀ i, i < 4 → v.cell? ⟨g, i * 3 + 2, none⟩ = some (.slice (a i) (xs i).length (c i))
  own : ∀ i, i < 4 → v.ownsRow (g + 1) 3 1 (.slice (a i) (xs i).length (c i)) (xs i).length ((xs i).map (Value.int .i64))
  gn : ∀ i i', i < 4 → i' < 4 → i ≠ i' → ∀ b b', (Value.slice (a i) (xs i).length (c i)).ownBlock = some b → (Value.slice (a i') (xs i').length (c i')).ownBlock = some b' → b ≠ b'
  fo : ∀ k, v.frozen? ⟨g, k, none⟩ = false
theorem Ot.glt {v : World} {g : Nat} {W H : Int} {a : Nat → Option Addr} {c : Nat → Nat} {xs : Nat → List Int} (h : Ot v g W H a c xs) : g < v.heap.size := cell_lt (h.wd 0 (by omega))
theorem Ot.later {v u : World} {g : Nat} {W H : Int} {a : Nat → Option Addr} {c : Nat → Nat} {xs : Nat → List Int} (h : Ot v g W H a c xs) (hb : Below v.heap.size v u) : Ot u g W H a c xs :=
  ⟨fun i hi => cell_on (h.wd i hi) hb, fun i hi => cell_on (h.ht i hi) hb, fun i hi => cell_on (h.sl i hi) hb, fun i hi => own_on (h.own i hi) hb, h.gn, fun k => (hb.frozen (p := ⟨g, k, none⟩) h.glt).trans (h.fo k)⟩
theorem own_keep {v u : World} {base n s : Nat} {z : Value} {xs : List Value} {e : TypeId} (h : v.ownsRow base e s z n xs) (hk : ∀ b, z.ownBlock = some b → u.heap[b]? = v.heap[b]?) : u.ownsRow base e s z n xs := by
  refine ⟨h.1, ?_⟩
  rcases h.2 with g | ⟨g, cap, cur, g1, g2, g3, g4⟩
  · exact .inl g
  · exact .inr ⟨g, cap, cur, g1, g2, by rw [hk g (by rw [g1]; rfl)]; exact g3, g4⟩
theorem Ot.push {v u : World} {g : Nat} {W H : Int} {a : Nat → Option Addr} {c : Nat → Nat} {xs : Nat → List Int} (h : Ot v g W H a c xs) {i : Nat} (hi : i < 4) {z : Int} {a' : Option Addr} {c' : Nat}
    (hown : u.ownsRow (g + 1) 3 1 (.slice a' ((xs i).length + 1) c') ((xs i).length + 1) ((xs i).map (Value.int .i64) ++ [.int .i64 z])) (hg : v.grownBy u (Value.slice (a i) (xs i).length (c i)).ownBlock)
    (hb : (Value.slice a' ((xs i).length + 1) c').ownBlock = (Value.slice (a i) (xs i).length (c i)).ownBlock ∨ (Value.slice a' ((xs i).length + 1) c').ownBlock = some v.heap.size) :
    Ot (u.setCell ⟨g, i * 3 + 2, none⟩ (.slice a' ((xs i).length + 1) c')) g W H (upd a i a') (upd c i c') (upd xs i (xs i ++ [z])) := by
  have gl := h.glt
  have ob : ∀ k, k < 4 → ∀ b, (Value.slice (a k) (xs k).length (c k)).ownBlock = some b → g + 1 ≤ b ∧ b < v.heap.size := fun k hk b hbk => (h.own k hk).lt b hbk
  have kg : u.heap[g]? = v.heap[g]? := hg.block g gl (fun e => by have := ob i hi g e.symm; omega)
  have cg : ∀ o, u.cell? ⟨g, o, none⟩ = v.cell? ⟨g, o, none⟩ := fun o => World.cell?_of_block (a := ⟨g, o, none⟩) kg
  have na : ∀ x y : Nat, x ≠ y → (⟨g, x, none⟩ : Addr) ≠ ⟨g, y, none⟩ := by intro x y hxy e; injection e with e1 e2; exact hxy e2
  have len1 : (xs i ++ [z]).length = (xs i).length + 1 := by simp
  refine ⟨fun k hk => ?_, fun k hk => ?_, fun k hk => ?_, fun k hk => ?_, fun k k' hk hk' hne b b' e e' => ?_, fun k => ?_⟩
  · rw [World.cell?_setCell_other _ _ _ _ (na _ _ (by omega)), cg]; exact h.wd k hk
  · rw [World.cell?_setCell_other _ _ _ _ (na _ _ (by omega)), cg]; exact h.ht k hk
  · by_cases e : k = i
    · subst e
      rw [upd_same, upd_same, upd_same, len1]
      exact World.cell?_setCell_same _ _ _ ((cg _).trans (h.sl k hk))
    · rw [upd_other _ _ e, upd_other _ _ e, upd_other _ _ e, World.cell?_setCell_other _ _ _ _ (na _ _ (by omega)), cg]
      exact h.sl k hk
  · refine ownsRow_setCell_below ?_ (a := ⟨g, i * 3 + 2, none⟩) (by show g < g + 1; omega) _
    by_cases e : k = i
    · subst e
      rw [upd_same, upd_same, upd_same, len1, List.map_append]
      exact hown
    · rw [upd_other _ _ e, upd_other _ _ e, upd_other _ _ e]
      refine own_keep (h.own k hk) (fun b hbk => hg.block b (ob k hk b hbk).2 (fun e2 => ?_))
      exact h.gn k i hk hi e b b hbk e2.symm rfl
  · by_cases e1 : k = i
    · have e2 : k' ≠ i := by omega
      subst e1
      rw [upd_same, upd_same, upd_same, len1] at e
      rw [upd_other _ _ e2, upd_other _ _ e2, upd_other _ _ e2] at e'
      rcases hb with hb | hb
      · rw [hb] at e
        exact h.gn k k' hk hk' hne b b' e e'
      · rw [hb] at e
        injection e with e
        have := (ob k' hk' b' e').2
        omega
    · rw [upd_other _ _ e1, upd_other _ _ e1, upd_other _ _ e1] at e
      by_cases e2 : k' = i
      · subst e2
        rw [upd_same, upd_same, upd_same, len1] at e'
        rcases hb with hb | hb
        · rw [hb] at e'
          exact h.gn k k' hk hk' hne b b' e e'
        · rw [hb] at e'
          injection e' with e'
          have := (ob k hk b e).2
          omega
      · rw [upd_other _ _ e2, upd_other _ _ e2, upd_other _ _ e2] at e'
        exact h.gn k k' hk hk' hne b b' e e'
  · have : u.frozen? ⟨g, k, none⟩ = v.frozen? ⟨g, k, none⟩ := World.frozen?_of_block (a := ⟨g, k, none⟩) kg
    simp [this, h.fo k]
/-- a store elsewhere -/
theorem Ot.apart {v : World} {g : Nat} {W H : Int} {a : Nat → Option Addr} {c : Nat → Nat} {xs : Nat → List Int} (h : Ot v g W H a c xs) {k : Nat} (o : Nat) (hk : g < k) (hn : ∀ i, i < 4 → (Value.slice (a i) (xs i).length (c i)).ownBlock ≠ some k) (z : Value) : Ot (v.setCell ⟨k, o, none⟩ z) g W H a c xs := by
  have na : ∀ y : Nat, (⟨k, o, none⟩ : Addr) ≠ ⟨g, y, none⟩ := by intro y e; injection e with e1 e2; omega
  refine ⟨fun i hi => ?_, fun i hi => ?_, fun i hi => ?_, fun i hi => ?_, h.gn, fun j => by simp [h.fo j]⟩
  · rw [World.cell?_setCell_other _ _ _ _ (na _)]; exact h.wd i hi
  · rw [World.cell?_setCell_other _ _ _ _ (na _)]; exact h.ht i hi
  · rw [World.cell?_setCell_other _ _ _ _ (na _)]; exact h.sl i hi
  · exact own_keep (h.own i hi) (fun b hb => Below.heap_setCell _ _ _ _ (by show b ≠ k; intro e; exact hn i hi (by rw [hb, e])))
/-- the first k plates have their numbers of columns and rows -/
structure L1 (v : World) (g k : Nat) (W H : Int) : Prop where
  wd : ∀ i, i < 4 → v.cell? ⟨g, i * 3, none⟩ = some (.int .i64 (if i < k then W else 0))
  ht : ∀ i, i < 4 → v.cell? ⟨g, i * 3 + 1, none⟩ = some (.int .i64 (if i < k then H else 0))
  sl : ∀ i, i < 4 → v.cell? ⟨g, i * 3 + 2, none⟩ = some (.slice none 0 0)
  fo : ∀ k, v.frozen? ⟨g, k, none⟩ = false
theorem L1.later {v u : World} {g k : Nat} {W H : Int} (h : L1 v g k W H) (hb : Below v.heap.size v u) : L1 u g k W H :=
  ⟨fun i hi => cell_on (h.wd i hi) hb, fun i hi => cell_on (h.ht i hi) hb, fun i hi => cell_on (h.sl i hi) hb, fun j => (hb.frozen (p := ⟨g, j, none⟩) (cell_lt (h.wd 0 (by omega)))).trans (h.fo j)⟩
theorem L1.start {v : World} {g : Nat} {W H : Int} (h : Z12 v g) (hf : ∀ k, v.frozen? ⟨g, k, none⟩ = false) : L1 v g 0 W H := by
  obtain ⟨h0, h1, h2, h3, h4, h5, h6, h7, h8, h9, h10, h11⟩ := h
  refine ⟨fun i hi => ?_, fun i hi => ?_, fun i hi => ?_, hf⟩
  · rw [if_neg (by omega)]
    obtain rfl | rfl | rfl | rfl : i = 0 ∨ i = 1 ∨ i = 2 ∨ i = 3 := by omega
    · exact h0
    · exact h3
    · exact h6
    · exact h9
  · rw [if_neg (by omega)]
    obtain rfl | rfl | rfl | rfl : i = 0 ∨ i = 1 ∨ i = 2 ∨ i = 3 := by omega
    · exact h1
    · exact h4
    · exact h7
    · exact h10
  · obtain rfl | rfl | rfl | rfl : i = 0 ∨ i = 1 ∨ i = 2 ∨ i = 3 := by omega
    · exact h2
    · exact h5
    · exact h8
    · exact h11
theorem L1.step {v : World} {g k : Nat} {W H : Int} (h : L1 v g k W H) (hk : k < 4) :
    L1 (((v.setCell ⟨g, k * 3, none⟩ (.int .i64 W)).setCell ⟨g, k * 3 + 1, none⟩ (.int .i64 H)).setCell ⟨g, k * 3 + 2, none⟩ (.slice none 0 0)) g (k + 1) W H := by
  have o : ∀ (x : World) (i j : Nat) (z : Value), i ≠ j → (x.setCell ⟨g, i, none⟩ z).cell? ⟨g, j, none⟩ = x.cell? ⟨g, j, none⟩ := fun x i j z hij => World.cell?_setCell_other _ _ _ _ (by simp <;> exact hij)
  refine ⟨fun i hi => ?_, fun i hi => ?_, fun i hi => ?_, fun j => by simp [h.fo j]⟩
  · by_cases e : i = k
    · subst e
      rw [if_pos (by omega), o _ _ _ _ (by omega), o _ _ _ _ (by omega)]
      exact World.cell?_setCell_same _ _ _ (h.wd i hi)
    · rw [o _ _ _ _ (by omega), o _ _ _ _ (by omega), o _ _ _ _ (by omega), h.wd i hi]
      congr 2
      by_cases e2 : i < k
      · rw [if_pos e2, if_pos (by omega)]
      · rw [if_neg e2, if_neg (by omega)]
  · by_cases e : i = k
    · subst e
      rw [if_pos (by omega), o _ _ _ _ (by omega)]
      exact World.cell?_setCell_same _ _ _ (by rw [o _ _ _ _ (by omega)]; exact h.ht i hi)
    · rw [o _ _ _ _ (by omega), o _ _ _ _ (by omega), o _ _ _ _ (by omega), h.ht i hi]
      congr 2
      by_cases e2 : i < k
      · rw [if_pos e2, if_pos (by omega)]
      · rw [if_neg e2, if_neg (by omega)]
  · by_cases e : i = k
    · subst e
      exact World.cell?_setCell_same _ _ _ (by rw [o _ _ _ _ (by omega), o _ _ _ _ (by omega)]; exact h.sl i hi)
    · rw [o _ _ _ _ (by omega), o _ _ _ _ (by omega), o _ _ _ _ (by omega)]; exact h.sl i hi
theorem L1.done {v : World} {g : Nat} {W H : Int} (h : L1 v g 4 W H) : Ot v g W H (fun _ => none) (fun _ => 0) (fun _ => []) :=
  ⟨fun i hi => by rw [h.wd i hi, if_pos hi], fun i hi => by rw [h.ht i hi, if_pos hi], fun i hi => h.sl i hi, fun i hi => ⟨rfl, .inl ⟨rfl, rfl⟩⟩, fun i i' _ _ _ b b' e _ => (by simp [Value.ownBlock] at e), h.fo⟩
end Go.Proofs.Ytjclioakdmilmaa
end
section
namespace Go.Proofs.Ytjclioakdmilmaa
open Go.RowKit
open Num Ink
set_option linter.unusedVariables false
theorem alloc_i4 : ∀ o : Oper, o.op = .alloc 25 → ∀ (a : Act) (v : World), (execOp a.eval o).run Try.prog v = .ok (.value (.pointer (some ⟨v.heap.size, 0, none⟩))) (v.alloc (.cells #[.int .i64 0, .int .i64 0, .int .i64 0, .int .i64 0] 25)) := by
  intro o ho a v; simp [execOp, ho, go_sem]
theorem q4_blk {v : World} {b : Nat} {t : TypeId} (h : v.heap[b]? = some (.cells #[.int .i64 0, .int .i64 0, .int .i64 0, .int .i64 0] t (0, 0))) : Q4 v b (fun _ => 0) :=
  ⟨by simp [World.cell?, h], by simp [World.cell?, h], by simp [World.cell?, h], by simp [World.cell?, h], fun o => by simp [World.frozen?, h]⟩
/-- the rows so far -/
noncomputable def rws (w : Nat) (h : Int) (D : List Dr) (vs : Nat → List Int) (j : Nat) : Nat → List Int := fun i => (List.range j).map (drwL w h D (pic vs) i)
theorem rws_len (w : Nat) (h : Int) (D : List Dr) (vs : Nat → List Int) (j i : Nat) : (rws w h D vs j i).length = j := by unfold rws; simp
theorem rws_succ (w : Nat) (h : Int) (D : List Dr) (vs : Nat → List Int) (j i : Nat) : rws w h D vs (j + 1) i = rws w h D vs j i ++ [drwL w h D (pic vs) i j] := by
  unfold rws; rw [List.range_succ, List.map_append]; rfl
/-- the rows in the midst of a cell -/
noncomputable def mid (w : Nat) (h : Int) (D : List Dr) (vs : Nat → List Int) (j k : Nat) : Nat → List Int := fun i => if i < k then rws w h D vs (j + 1) i else rws w h D vs j i
theorem mid_zero (w : Nat) (h : Int) (D : List Dr) (vs : Nat → List Int) (j : Nat) : mid w h D vs j 0 = rws w h D vs j := by
  funext i; unfold mid; rw [if_neg (by omega)]
theorem mid_len (w : Nat) (h : Int) (D : List Dr) (vs : Nat → List Int) (j k : Nat) : (mid w h D vs j k k).length = j := by
  unfold mid; rw [if_neg (by omega), rws_len]
theorem mid_succ (w : Nat) (h : Int) (D : List Dr) (vs : Nat → List Int) (j k : Nat) : upd (mid w h D vs j k) k (mid w h D vs j k k ++ [drwL w h D (pic vs) k j]) = mid w h D vs j (k + 1) := by
  funext i
  by_cases e : i = k
  · subst e
    rw [upd_same]
    unfold mid
    rw [if_neg (by omega), if_pos (by omega), rws_succ]
  · rw [upd_other _ _ e]
    unfold mid
    by_cases q : i < k
    · rw [if_pos q, if_pos (by omega)]
    · rw [if_neg q, if_neg (by omega)]
theorem Q4.at {v : World} {b : Nat} {z : Nat → Int} (h : Q4 v b z) {i : Nat} (hi : i < 4) : v.cell? ⟨b, i, none⟩ = some (.int .i64 (z i)) := by
  obtain rfl | rfl | rfl | rfl : i = 0 ∨ i = 1 ∨ i = 2 ∨ i = 3 := by omega
  · exact h.1
  · exact h.2.1
  · exact h.2.2.1
  · exact h.2.2.2.1
theorem Q4.grown {v u : World} {b : Nat} {z : Nat → Int} {row : Option Nat} (h : Q4 v b z) (hg : v.grownBy u row) (hr : row ≠ some b) : Q4 u b z := by
  have hb : b < v.heap.size := cell_lt h.1
  have e : u.heap[b]? = v.heap[b]? := hg.block b hb (fun e => hr e.symm)
  have c : ∀ o, u.cell? ⟨b, o, none⟩ = v.cell? ⟨b, o, none⟩ := fun o => World.cell?_of_block (a := ⟨b, o, none⟩) e
  have f : ∀ o, u.frozen? ⟨b, o, none⟩ = v.frozen? ⟨b, o, none⟩ := fun o => World.frozen?_of_block (a := ⟨b, o, none⟩) e
  exact ⟨(c 0).trans h.1, (c 1).trans h.2.1, (c 2).trans h.2.2.1, (c 3).trans h.2.2.2.1, fun o => (f o).trans (h.2.2.2.2 o)⟩
theorem Q4.apart {v : World} {b : Nat} {z : Nat → Int} (h : Q4 v b z) {g : Nat} (o : Nat) (hn : g ≠ b) (y : Value) : Q4 (v.setCell ⟨g, o, none⟩ y) b z := by
  have c : ∀ i, (v.setCell ⟨g, o, none⟩ y).cell? ⟨b, i, none⟩ = v.cell? ⟨b, i, none⟩ := fun i => World.cell?_setCell_other _ _ _ _ (by intro e; injection e with e1 e2; exact hn e1)
  exact ⟨(c 0).trans h.1, (c 1).trans h.2.1, (c 2).trans h.2.2.1, (c 3).trans h.2.2.2.1, fun o => by simp [h.2.2.2.2 o]⟩
theorem Ot.congr {v : World} {g : Nat} {W H : Int} {a : Nat → Option Addr} {c : Nat → Nat} {xs ys : Nat → List Int} (h : Ot v g W H a c xs) (e : ∀ i, i < 4 → ys i = xs i) : Ot v g W H a c ys :=
  ⟨h.wd, h.ht, fun i hi => by rw [e i hi]; exact h.sl i hi, fun i hi => by rw [e i hi]; exact h.own i hi, fun i i' hi hi' hne => by rw [e i hi, e i' hi']; exact h.gn i i' hi hi' hne, h.fo⟩
/-- the growing plates, no row of which lies in block gz -/
def Mid (v : World) (g gz : Nat) (W H : Int) (xs : Nat → List Int) : Prop := ∃ a c, Ot v g W H a c xs ∧ ∀ i, i < 4 → (Value.slice (a i) (xs i).length (c i)).ownBlock ≠ some gz
theorem Ot.grown {v u : World} {g : Nat} {W H : Int} {a : Nat → Option Addr} {c : Nat → Nat} {xs : Nat → List Int} (h : Ot v g W H a c xs) {i : Nat} (hi : i < 4) (hg : v.grownBy u (Value.slice (a i) (xs i).length (c i)).ownBlock) :
    u.cell? ⟨g, i * 3 + 2, none⟩ = some (.slice (a i) (xs i).length (c i)) ∧ ∀ k, u.frozen? ⟨g, k, none⟩ = false := by
  have gl := h.glt
  have kg : u.heap[g]? = v.heap[g]? := hg.block g gl (fun e => by have := ((h.own i hi).lt g e.symm).1; omega)
  exact ⟨(World.cell?_of_block (a := ⟨g, i * 3 + 2, none⟩) kg).trans (h.sl i hi), fun k => (World.frozen?_of_block (a := ⟨g, k, none⟩) kg).trans (h.fo k)⟩
theorem Ot.mid {v u : World} {g gz : Nat} {W H : Int} {a : Nat → Option Addr} {c : Nat → Nat} {xs : Nat → List Int} (h : Ot v g W H a c xs) (hn : ∀ i, i < 4 → (Value.slice (a i) (xs i).length (c i)).ownBlock ≠ some gz) (hz : gz < v.heap.size) {i : Nat} (hi : i < 4) {z : Int} {a' : Option Addr} {c' : Nat}
    (hown : u.ownsRow (g + 1) 3 1 (.slice a' ((xs i).length + 1) c') ((xs i).length + 1) ((xs i).map (Value.int .i64) ++ [.int .i64 z])) (hg : v.grownBy u (Value.slice (a i) (xs i).length (c i)).ownBlock)
    (hb : (Value.slice a' ((xs i).length + 1) c').ownBlock = (Value.slice (a i) (xs i).length (c i)).ownBlock ∨ (Value.slice a' ((xs i).length + 1) c').ownBlock = some v.heap.size) :
    Mid (u.setCell ⟨g, i * 3 + 2, none⟩ (.slice a' ((xs i).length + 1) c')) g gz W H (upd xs i (xs i ++ [z])) := by
  refine ⟨_, _, h.push hi hown hg hb, fun k hk => ?_⟩
  by_cases e : k = i
  · subst e
    rw [upd_same, upd_same, upd_same, List.length_append]
    show (Value.slice a' ((xs k).length + 1) c').ownBlock ≠ some gz
    rcases hb with hb | hb
    · rw [hb]; exact hn k hk
    · rw [hb]; intro q; injection q with q; omega
  · rw [upd_other _ _ e, upd_other _ _ e, upd_other _ _ e]
    exact hn k hk
theorem Mid.later {v u : World} {g gz : Nat} {W H : Int} {xs : Nat → List Int} (h : Mid v g gz W H xs) (hb : Below v.heap.size v u) : Mid u g gz W H xs := by
  obtain ⟨a, c, h1, h2⟩ := h
  exact ⟨a, c, h1.later hb, h2⟩
theorem below_grow {B : Nat} {w v u : World} {row : Option Nat} (h : Below B w v) (hg : v.grownBy u row) (hB : B ≤ v.heap.size) (hr : ∀ b, row = some b → B ≤ b) : Below B w u :=
  ⟨hg.os.trans h.os, hg.tape.trans h.tape, hg.output.trans h.output, Nat.le_trans h.size hg.size, fun k hk => (hg.block k (by omega) (fun e => by have := hr k e.symm; omega)).trans (h.block k hk)⟩
/-- a row of one number, made by the region -/
theorem one_mk (o : Oper) (x : Operand) (A : Act) (z : Int) (ho : o.op = .buildSlice 38 1 #[(0, x)]) (hx : A.eval x = .int .i64 z) (B : Nat) (v : World) (hB : B ≤ v.heap.size) :
    makesUpon Try.prog (fun y u => ∃ b, y = .slice (some ⟨b, 0, none⟩) 1 1 ∧ B ≤ b ∧ u.cell? ⟨b, 0, none⟩ = some (.int .i64 z)) v ((execOp A.eval o).run Try.prog v) := by
  have hr : ∀ f : Operand → Value, f x = .int .i64 z → (execOp f o).run Try.prog v = .ok (.value (.slice (some ⟨v.heap.size, 0, none⟩) 1 1)) (v.alloc (.cells #[.int .i64 z] 3)) := by
    intro f hf
    simp [execOp, ho, hf, go_sem]
  rw [hr _ hx]
  exact ⟨below_al _ _, v.heap.size, rfl, hB, by simp⟩
/-- twelve cells are stored -/
def st12 (v : World) (b : Nat) (y0 y1 y2 y3 y4 y5 y6 y7 y8 y9 y10 y11 : Value) : World :=
  (((((((((((v.setCell ⟨b, 0, none⟩ y0).setCell ⟨b, 1, none⟩ y1).setCell ⟨b, 2, none⟩ y2).setCell ⟨b, 3, none⟩ y3).setCell ⟨b, 4, none⟩ y4).setCell ⟨b, 5, none⟩ y5).setCell ⟨b, 6, none⟩ y6).setCell ⟨b, 7, none⟩ y7).setCell ⟨b, 8, none⟩ y8).setCell ⟨b, 9, none⟩ y9).setCell ⟨b, 10, none⟩ y10).setCell ⟨b, 11, none⟩ y11
theorem st12_below {B : Nat} {w v : World} {b : Nat} (h : Below B w v) (hb : B ≤ b) (y0 y1 y2 y3 y4 y5 y6 y7 y8 y9 y10 y11 : Value) : Below B w (st12 v b y0 y1 y2 y3 y4 y5 y6 y7 y8 y9 y10 y11) := by
  unfold st12
  have s : ∀ (u : World) (i : Nat) (y : Value), Below B w u → Below B w (u.setCell ⟨b, i, none⟩ y) := fun u i y hu => hu.setCell (p := ⟨b, i, none⟩) hb y
  exact s _ _ _ (s _ _ _ (s _ _ _ (s _ _ _ (s _ _ _ (s _ _ _ (s _ _ _ (s _ _ _ (s _ _ _ (s _ _ _ (s _ _ _ (s _ _ _ h)))))))))))
theorem st12_other {v : World} {b k : Nat} (hk : b ≠ k) (o : Nat) (y0 y1 y2 y3 y4 y5 y6 y7 y8 y9 y10 y11 : Value) : (st12 v b y0 y1 y2 y3 y4 y5 y6 y7 y8 y9 y10 y11).cell? ⟨k, o, none⟩ = v.cell? ⟨k, o, none⟩ := by
  unfold st12
  have s : ∀ (u : World) (i : Nat) (y : Value), (u.setCell ⟨b, i, none⟩ y).cell? ⟨k, o, none⟩ = u.cell? ⟨k, o, none⟩ := fun u i y => World.cell?_setCell_other _ _ _ _ (by intro e; injection e with e1 e2; exact hk e1)
  rw [s, s, s, s, s, s, s, s, s, s, s, s]
theorem st12_size (v : World) (b : Nat) (y0 y1 y2 y3 y4 y5 y6 y7 y8 y9 y10 y11 : Value) : (st12 v b y0 y1 y2 y3 y4 y5 y6 y7 y8 y9 y10 y11).heap.size = v.heap.size := by
  unfold st12; simp
theorem st12_at {v : World} {b : Nat} (h : Z12 v b) (y0 y1 y2 y3 y4 y5 y6 y7 y8 y9 y10 y11 : Value) :
    let u := st12 v b y0 y1 y2 y3 y4 y5 y6 y7 y8 y9 y10 y11
    u.cell? ⟨b, 0, none⟩ = some y0 ∧ u.cell? ⟨b, 1, none⟩ = some y1 ∧ u.cell? ⟨b, 2, none⟩ = some y2 ∧ u.cell? ⟨b, 3, none⟩ = some y3 ∧ u.cell? ⟨b, 4, none⟩ = some y4 ∧ u.cell? ⟨b, 5, none⟩ = some y5 ∧ u.cell? ⟨b, 6, none⟩ = some y6 ∧ u.cell? ⟨b, 7, none⟩ = some y7 ∧ u.cell? ⟨b, 8, none⟩ = some y8 ∧ u.cell? ⟨b, 9, none⟩ = some y9 ∧ u.cell? ⟨b, 10, none⟩ = some y10 ∧ u.cell? ⟨b, 11, none⟩ = some y11 := by
  obtain ⟨h0, h1, h2, h3, h4, h5, h6, h7, h8, h9, h10, h11⟩ := h
  have o : ∀ (u : World) (i j : Nat) (z : Value), i ≠ j → (u.setCell ⟨b, i, none⟩ z).cell? ⟨b, j, none⟩ = u.cell? ⟨b, j, none⟩ := fun u i j z hij => World.cell?_setCell_other _ _ _ _ (by intro e; injection e with e1 e2; exact hij e2)
  have m : ∀ (u : World) (i : Nat) (z : Value), (u.cell? ⟨b, i, none⟩).isSome = true → (u.setCell ⟨b, i, none⟩ z).cell? ⟨b, i, none⟩ = some z := fun u i z hz => World.cell?_setCell_same _ _ _ (Option.some_get hz).symm
  unfold st12
  refine ⟨?_, ?_, ?_, ?_, ?_, ?_, ?_, ?_, ?_, ?_, ?_, ?_⟩
  all_goals (repeat rw [o _ _ _ _ (by decide)])
  all_goals (refine m _ _ _ ?_; (repeat rw [o _ _ _ _ (by decide)]); simp only [h0, h1, h2, h3, h4, h5, h6, h7, h8, h9, h10, h11, Option.isSome_some])
/-- the grown plates, returned -/
theorem Ot.res {v w : World} {g b : Nat} {W H : Int} {a : Nat → Option Addr} {c : Nat → Nat} {xs : Nat → List Int} (h : Ot v g W H a c xs) (hbg : b < g) (hB : w.heap.size ≤ b) (hw : Below w.heap.size w v) (y0 y1 y2 y3 y4 y5 y6 y7 y8 y9 y10 y11 : Value) :
    PlR (fun _ => W) (fun _ => H) xs 0 w (.returned (.tuple #[.agg #[.int .i64 W, .int .i64 H, .slice (a 0) (xs 0).length (c 0), .int .i64 W, .int .i64 H, .slice (a 1) (xs 1).length (c 1), .int .i64 W, .int .i64 H, .slice (a 2) (xs 2).length (c 2), .int .i64 W, .int .i64 H, .slice (a 3) (xs 3).length (c 3)], .int .i64 0])) (st12 v b y0 y1 y2 y3 y4 y5 y6 y7 y8 y9 y10 y11) := by
  refine ⟨a, c, rfl, fun i hi hn => ?_, fun i hi k o e => ?_, st12_below hw hB _ _ _ _ _ _ _ _ _ _ _ _⟩
  · have ho := h.own i hi
    obtain ⟨k, cap, e, hk, hkl⟩ := own_some ho hn
    injection e with e1 e2 e3
    rw [e1] at ho
    refine ⟨k, 0, e1, by rw [st12_size]; exact hkl, fun j hj => ?_⟩
    rw [st12_other (by omega), Nat.zero_add, ho.cellAt j (by omega)]
    rw [List.getElem?_map, List.getElem?_eq_getElem hj]; rfl
  · have ho := (h.own i hi).lt k (by rw [e]; rfl)
    omega
end Go.Proofs.Ytjclioakdmilmaa
end
section
namespace Go.Proofs.Ytjclioakdmilmaa
open Go.RowKit
open Num Ink
set_option linter.unusedVariables false
set_option maxRecDepth 100000 in
set_option maxHeartbeats 16000000 in
theorem rOver_any (ws hs : Nat → Int) (ad : Nat → Option Addr) (cp : Nat → Nat) (vs : Nat → List Int) (D : List Dr) (da : Option Addr) (dc : Nat) (w : World) (hN : Ns4 w ad vs) (hl : ∀ i, i < 4 → (vs i).length ≤ 65536)
    (hD : Drs w w.heap.size da D) (hDl : D.length ≤ 100000) (hk : ∀ k (hk : k < D.length), -9223372036854775808 ≤ D[k].k ∧ D[k].k ≤ 9223372036854775807) :
    Calls Try.prog 22 #[pl4 ws hs fun i => .slice (ad i) (vs i).length (cp i), .slice da D.length dc] w (PlR (ovW ws hs vs D) (ovH ws hs vs D) (ovV ws hs vs D) (ovE ws hs vs D) w) := by
  have HN := Lib.hid hN
  have HD := Lib.hid hD
  have HL := Lib.hid hl
  have CS := Lib.hid (fun v (hb : Below w.heap.size w v) => rsound_any ws hs vs ad cp v (hN.later hb) hl)
  have CK := Lib.hid (fun v (hb : Below w.heap.size w v) => rchecks_any D da dc v ((hD.old hb).le hb.size) hDl hk)
  have HE : Hid (ovE ws hs vs D = if errP ws hs vs ≠ 0 then errP ws hs vs else ckL D) := Lib.hid rfl
  have HB := Lib.hid (fun E h hE => ov_bad (ws := ws) (hs := hs) (vs := vs) (D := D) (E := E) h hE)
  have HPE := Lib.hid (fun h => errP_ok (ws := ws) (hs := hs) (vs := vs) h)
  have HCK : Hid (ckL D = 0 → ∀ x ∈ D, x.err = 0) := Lib.hid (fun h x hx => by
    unfold ckL at h
    split at h
    · omega
    · obtain ⟨m, hm, rfl⟩ := List.getElem_of_mem hx
      exact firstE_ok h m hm)
  generalize hRE : ovE ws hs vs D = RE at *
  generalize hRW : ovW ws hs vs D = RW at *
  generalize hRH : ovH ws hs vs D = RH at *
  generalize hRV : ovV ws hs vs D = RV at *
  generalize hEP : errP ws hs vs = EP at *
  generalize ckL D = EC at *
  have REQ : Hid (ovE ws hs vs D = RE ∧ ovW ws hs vs D = RW ∧ ovH ws hs vs D = RH ∧ ovV ws hs vs D = RV) := Lib.hid ⟨hRE, hRW, hRH, hRV⟩
  clear hN hl hk hD hRE hRW hRH hRV hEP
  unfold pl4 at *
  go_enter Try.func22, Try.ntmps22
  go_upto_region 1 with fail
  have b1 := below_al w (.cells #[.int .i64 (ws 0), .int .i64 (hs 0), .slice (ad 0) (vs 0).length (cp 0), .int .i64 (ws 1), .int .i64 (hs 1), .slice (ad 1) (vs 1).length (cp 1), .int .i64 (ws 2), .int .i64 (hs 2), .slice (ad 2) (vs 2).length (cp 2), .int .i64 (ws 3), .int .i64 (hs 3), .slice (ad 3) (vs 3).length (cp 3)] 41)
  have p1 := P12.new w ws hs ad cp vs 41
  have s1 : (w.alloc (.cells #[.int .i64 (ws 0), .int .i64 (hs 0), .slice (ad 0) (vs 0).length (cp 0), .int .i64 (ws 1), .int .i64 (hs 1), .slice (ad 1) (vs 1).length (cp 1), .int .i64 (ws 2), .int .i64 (hs 2), .slice (ad 2) (vs 2).length (cp 2), .int .i64 (ws 3), .int .i64 (hs 3), .slice (ad 3) (vs 3).length (cp 3)] 41)).heap.size = w.heap.size + 1 := by simp
  generalize w.alloc (.cells #[.int .i64 (ws 0), .int .i64 (hs 0), .slice (ad 0) (vs 0).length (cp 0), .int .i64 (ws 1), .int .i64 (hs 1), .slice (ad 1) (vs 1).length (cp 1), .int .i64 (ws 2), .int .i64 (hs 2), .slice (ad 2) (vs 2).length (cp 2), .int .i64 (ws 3), .int .i64 (hs 3), .slice (ad 3) (vs 3).length (cp 3)] 41) = v1 at *
  have b2 := below_al v1 (.cells #[.int .i64 0, .int .i64 0, .slice none 0 0, .int .i64 0, .int .i64 0, .slice none 0 0, .int .i64 0, .int .i64 0, .slice none 0 0, .int .i64 0, .int .i64 0, .slice none 0 0] 41)
  have z2 := Z12.new v1 41
  have fz : ∀ j, (v1.alloc (.cells #[.int .i64 0, .int .i64 0, .slice none 0 0, .int .i64 0, .int .i64 0, .slice none 0 0, .int .i64 0, .int .i64 0, .slice none 0 0, .int .i64 0, .int .i64 0, .slice none 0 0] 41)).frozen? ⟨v1.heap.size, j, none⟩ = false := fun j => by simp
  rw [s1] at z2 fz
  have P2 := Lib.hid (p1.later b2)
  have Z2 := Lib.hid z2
  have F2 := Lib.hid fz
  have G2 := Lib.hid (below_on b1 b2)
  clear b1 b2 p1 z2 fz
  generalize hv2 : v1.alloc (.cells #[.int .i64 0, .int .i64 0, .slice none 0 0, .int .i64 0, .int .i64 0, .slice none 0 0, .int .i64 0, .int .i64 0, .slice none 0 0, .int .i64 0, .int .i64 0, .slice none 0 0] 41) = v2 at *
  clear hv2 s1 v1
  generalize hsz : w.heap.size = sz at *
  have HSZ := Lib.hid hsz
  clear hsz
  obtain ⟨h0, h1, h2, h3, h4, h5, h6, h7, h8, h9, h10, h11⟩ := P2.out
  have NC := Lib.hid (CS.out v2 (by exact G2.out))
  clear CS
  go_wp2_with fail
  refine NC.out.mono ?_
  rintro e v3 ⟨rfl, b3⟩
  have P3 := Lib.hid (P2.out.later b3)
  have Z3 := Lib.hid (Z2.out.later b3)
  have F3 : Hid (∀ j, v3.frozen? ⟨sz + 1, j, none⟩ = false) := Lib.hid (fun j => (b3.frozen (p := ⟨sz + 1, j, none⟩) (cell_lt Z2.out.1)).trans (F2.out j))
  have G3 := Lib.hid (G2.out.trans (b3.mono (by have := G2.out.size; have := HSZ.out; omega)))
  clear b3 P2 Z2 F2 G2 NC h0 h1 h2 h3 h4 h5 h6 h7 h8 h9 h10 h11
  have SZ3 : Hid (sz + 1 < v3.heap.size) := Lib.hid (cell_lt Z3.out.1)
  by_cases he : EP ≠ 0
  · have hR := HE.out.trans (if_pos he)
    obtain ⟨r1, r2, r3⟩ := HB.out EP hR he
    have d1 : (EP == 0) = false := by simpa using he
    have d2 : (EP != 0) = true := by simpa using he
    subst r1 r2 r3 hR
    have PR : Hid (PlR (fun _ => 0) (fun _ => 0) (fun _ => []) RE w (.returned (.tuple #[.agg #[.int .i64 0, .int .i64 0, .slice none 0 0, .int .i64 0, .int .i64 0, .slice none 0 0, .int .i64 0, .int .i64 0, .slice none 0 0, .int .i64 0, .int .i64 0, .slice none 0 0], .int .i64 RE])) v3) := Lib.hid (plR_none RE w v3 (by rw [HSZ.out]; exact G3.out))
    obtain ⟨h0, h1, h2, h3, h4, h5, h6, h7, h8, h9, h10, h11⟩ := Z3.out
    have f0 := F3.out
    have i0 := setCell_id h0
    have i1 := setCell_id h1
    have i2 := setCell_id h2
    have i3 := setCell_id h3
    have i4 := setCell_id h4
    have i5 := setCell_id h5
    have i6 := setCell_id h6
    have i7 := setCell_id h7
    have i8 := setCell_id h8
    have i9 := setCell_id h9
    have i10 := setCell_id h10
    have i11 := setCell_id h11
    clear HE HB he HPE HCK CK
    go_wp2
    exact bodyPost_ret (v := .tuple #[.agg #[.int .i64 0, .int .i64 0, .slice none 0 0, .int .i64 0, .int .i64 0, .slice none 0 0, .int .i64 0, .int .i64 0, .slice none 0 0, .int .i64 0, .int .i64 0, .slice none 0 0], .int .i64 RE]) (by simp [results, Try.results22, go_sem, h0, h1, h2, h3, h4, h5, h6, h7, h8, h9, h10, h11]) rfl PR.out
  have hE0 : EP = 0 := by omega
  subst hE0
  have HE2 : Hid (RE = EC) := Lib.hid (HE.out.trans (if_neg he))
  have OK := Lib.hid (HPE.out rfl)
  have NC := Lib.hid (CK.out v3 (by exact G3.out))
  clear HE he HPE CK
  go_wp2_with fail
  refine NC.out.mono ?_
  rintro e v4 ⟨rfl, b4⟩
  have P4 := Lib.hid (P3.out.later b4)
  have Z4 := Lib.hid (Z3.out.later b4)
  have F4 : Hid (∀ j, v4.frozen? ⟨sz + 1, j, none⟩ = false) := Lib.hid (fun j => (b4.frozen (p := ⟨sz + 1, j, none⟩) SZ3.out).trans (F3.out j))
  have G4 := Lib.hid (G3.out.trans (b4.mono (by have := G3.out.size; have := HSZ.out; omega)))
  have SZ4 : Hid (sz + 1 < v4.heap.size) := Lib.hid (cell_lt Z4.out.1)
  clear b4 P3 Z3 F3 G3 SZ3 NC
  by_cases he : EC ≠ 0
  · have hR := HE2.out
    obtain ⟨r1, r2, r3⟩ := HB.out EC hR he
    have d1 : (EC == 0) = false := by simpa using he
    have d2 : (EC != 0) = true := by simpa using he
    subst r1 r2 r3 hR
    have PR : Hid (PlR (fun _ => 0) (fun _ => 0) (fun _ => []) RE w (.returned (.tuple #[.agg #[.int .i64 0, .int .i64 0, .slice none 0 0, .int .i64 0, .int .i64 0, .slice none 0 0, .int .i64 0, .int .i64 0, .slice none 0 0, .int .i64 0, .int .i64 0, .slice none 0 0], .int .i64 RE])) v4) := Lib.hid (plR_none RE w v4 (by rw [HSZ.out]; exact G4.out))
    obtain ⟨h0, h1, h2, h3, h4, h5, h6, h7, h8, h9, h10, h11⟩ := Z4.out
    have f0 := F4.out
    have i0 := setCell_id h0
    have i1 := setCell_id h1
    have i2 := setCell_id h2
    have i3 := setCell_id h3
    have i4 := setCell_id h4
    have i5 := setCell_id h5
    have i6 := setCell_id h6
    have i7 := setCell_id h7
    have i8 := setCell_id h8
    have i9 := setCell_id h9
    have i10 := setCell_id h10
    have i11 := setCell_id h11
    clear HB he HCK OK
    go_wp2
    exact bodyPost_ret (v := .tuple #[.agg #[.int .i64 0, .int .i64 0, .slice none 0 0, .int .i64 0, .int .i64 0, .slice none 0 0, .int .i64 0, .int .i64 0, .slice none 0 0, .int .i64 0, .int .i64 0, .slice none 0 0], .int .i64 RE]) (by simp [results, Try.results22, go_sem, h0, h1, h2, h3, h4, h5, h6, h7, h8, h9, h10, h11]) rfl PR.out
  have hE0 : EC = 0 := by omega
  subst hE0
  have ED := Lib.hid (HCK.out rfl)
  have RE0 : Hid (RE = 0) := HE2
  clear HCK HB he HE2
  have b5 := below_al v4 (.cells #[.int .i64 0, .int .i64 0, .slice none 0 0, .int .i64 0, .int .i64 0, .slice none 0 0, .int .i64 0, .int .i64 0, .slice none 0 0, .int .i64 0, .int .i64 0, .slice none 0 0] 41)
  have z5 := Z12.new v4 41
  have f5 : ∀ j, (v4.alloc (.cells #[.int .i64 0, .int .i64 0, .slice none 0 0, .int .i64 0, .int .i64 0, .slice none 0 0, .int .i64 0, .int .i64 0, .slice none 0 0, .int .i64 0, .int .i64 0, .slice none 0 0] 41)).frozen? ⟨v4.heap.size, j, none⟩ = false := fun j => by simp
  have Q5 : Hid (L1 (v4.alloc (.cells #[.int .i64 0, .int .i64 0, .slice none 0 0, .int .i64 0, .int .i64 0, .slice none 0 0, .int .i64 0, .int .i64 0, .slice none 0 0, .int .i64 0, .int .i64 0, .slice none 0 0] 41)) v4.heap.size 0 (ws 0) (hs 0)) := Lib.hid (L1.start z5 f5)
  have W5 := Lib.hid b5
  clear z5 f5 b5
  go_upto_region 8 with fail
  generalize v4.alloc (.cells #[.int .i64 0, .int .i64 0, .slice none 0 0, .int .i64 0, .int .i64 0, .slice none 0 0, .int .i64 0, .int .i64 0, .slice none 0 0, .int .i64 0, .int .i64 0, .slice none 0 0] 41) = v5 at *
  generalize hg : v4.heap.size = g at *
  have HG := Lib.hid hg
  clear hg
  go_wp2_with fail
  go_loopw [9] (fun i wr => ∃ k : Nat, k ≤ 4 ∧ i = .int .i64 k ∧ Hid (Below g v4 wr) ∧ Hid (L1 wr g k (ws 0) (hs 0))) (fun i _ => 4 - (intOf i).toNat)
  case atStart => exact ⟨0, by omega, rfl, W5, Q5⟩
  case round =>
    obtain ⟨k, hk, rfl, HW, HQ⟩ := hrel
    have P6 := Lib.hid (P4.out.later (by rw [HG.out]; exact HW.out))
    by_cases hlt : k < 4
    · obtain ⟨c0, c1, -⟩ := p12_at P6.out hlt
      obtain ⟨e1, e2, -⟩ := OK.out.2.2 k hlt
      rw [e1] at c0
      rw [e2] at c1
      clear e1 e2
      have q1 : (0 : Int) ≤ (k : Int) := by omega
      have q2 : (k : Int) < 4 := by omega
      go_upto_region 11 with fail
      refine region_freeL (P := Try.prog) [] 11 11 103 29 (.cells #[.int .i64 0, .int .i64 0] 29) (by kernel_rfl) (by decide) (by kernel_rfl) (fun _ _ _ _ _ h => h) ?_ (by kernel_rfl) (by kernel_rfl) alloc_pt ?_
      · rfl
      apply Exists.intro
      refine ⟨?hqt, ?hft⟩
      case hqt =>
        intro X' hne
        haveI := hne
        simp only [List.take_succ_cons, List.take_zero]
        have L0 := fun m' : LaterX wr X' => m'.cell c0
        have L1 := fun m' : LaterX wr X' => m'.cell c1
        iterate 11 (go_big_quiet_want; go_big_quiet_op; go_big_quiet_on)
        exact wpQuiet_nil rfl
      intro G0 w8 hb _ _
      simp only [List.take_succ_cons, List.take_zero, List.drop_succ_cons, List.drop_zero, ptrs, putsL]
      have HQ1 := Lib.hid (HQ.out.later hb)
      have HW1 := Lib.hid (HW.out.trans (hb.mono (by have := HW.out.size; have := HG.out; omega)))
      clear hb c0 c1 HQ HW
      have HQ2 := Lib.hid (HQ1.out.step hlt)
      have y0 := HQ1.out.wd k hlt
      have y1 := HQ1.out.ht k hlt
      have y2 := HQ1.out.sl k hlt
      have yf := HQ1.out.fo
      have HW2 := Lib.hid (((HW1.out.setCell (p := ⟨g, k * 3, none⟩) (Nat.le_refl _) (.int .i64 (ws 0))).setCell (p := ⟨g, k * 3 + 1, none⟩) (Nat.le_refl _) (.int .i64 (hs 0))).setCell (p := ⟨g, k * 3 + 2, none⟩) (Nat.le_refl _) (.slice none 0 0))
      clear HQ1 HW1 P6
      go_wp2_with fail
      go_roundw
      case rel => exact ⟨k + 1, by omega, by go_num, HW2, HQ2⟩
      case measure => simp [intOf] <;> omega
    · obtain rfl : k = 4 := by omega
      rw [show ((4 : Nat) : Int) = (4 : Int) from rfl]
      have OT := Lib.hid HQ.out.done
      clear HQ
      obtain ⟨w1, w2, w3⟩ := OK.out
      have hn0 := (w3 0 (by omega)).2.2.2.1
      generalize hnn : (vs 0).length = n at *
      have n64 : n ≤ 65536 := n_le hn0.symm ⟨by omega, w1.2⟩ ⟨by omega, w2.2⟩
      have HLN : Hid (∀ i, i < 4 → (vs i).length = n) := Lib.hid (fun i hi => (w3 i hi).2.2.1)
      have OT0 : Hid (∃ a c, Ot wr g (ws 0) (hs 0) a c (rws (ws 0).toNat (hs 0) D vs 0)) := Lib.hid ⟨_, _, OT.out⟩
      have HWb := HW
      clear w3 OT HW P6 hnn
      have HN0 := Lib.hid hn0
      go_upto_region 12 with fail
      go_wp2_with fail
      go_loopw [10] (fun i wr => ∃ j : Nat, j ≤ n ∧ i = .int .i64 j ∧ Hid (Below g v4 wr) ∧ Hid (∃ a c, Ot wr g (ws 0) (hs 0) a c (rws (ws 0).toNat (hs 0) D vs j))) (fun i _ => n - (intOf i).toNat)
      case atStart => exact ⟨0, by omega, rfl, HWb, OT0⟩
      case round =>
        obtain ⟨j, hj, rfl, HW, HO⟩ := hrel
        have P7 := Lib.hid (P4.out.later (by rw [HG.out]; exact HW.out))
        obtain ⟨p0, p1, p2, p3, p4, p5, p6, p7, p8, p9, p10, p11⟩ := P7.out
        rw [HLN.out 0 (by omega)] at p2
        by_cases hjt : j < n
        · have GW := Lib.hid (G4.out.trans (HW.out.mono (by have := G4.out.size; have := HSZ.out; have := HG.out; omega)))
          have NX := (HN.out.later (by rw [HSZ.out]; exact G4.out)).later (by rw [HG.out]; exact HW.out)
          have pcv : ∀ i (hi : i < 4) (h : j < (vs i).length), (vs i)[j] = pic vs i j := fun i hi h => by unfold pic; simp [h]
          obtain ⟨b0, o0, f0, -, g0⟩ := NX 0 (by omega) (by rw [HLN.out 0 (by omega)]; omega)
          obtain ⟨b1, o1, f1, -, g1⟩ := NX 1 (by omega) (by rw [HLN.out 1 (by omega)]; omega)
          obtain ⟨b2, o2, f2, -, g2⟩ := NX 2 (by omega) (by rw [HLN.out 2 (by omega)]; omega)
          obtain ⟨b3, o3, f3, -, g3⟩ := NX 3 (by omega) (by rw [HLN.out 3 (by omega)]; omega)
          have u0 : wr.cell? ⟨b0, o0 + j, none⟩ = some (.int .i64 (pic vs 0 j)) := by rw [← pcv 0 (by omega) (by rw [HLN.out 0 (by omega)]; exact hjt)]; exact g0 j (by rw [HLN.out 0 (by omega)]; exact hjt)
          have u1 : wr.cell? ⟨b1, o1 + j, none⟩ = some (.int .i64 (pic vs 1 j)) := by rw [← pcv 1 (by omega) (by rw [HLN.out 1 (by omega)]; exact hjt)]; exact g1 j (by rw [HLN.out 1 (by omega)]; exact hjt)
          have u2 : wr.cell? ⟨b2, o2 + j, none⟩ = some (.int .i64 (pic vs 2 j)) := by rw [← pcv 2 (by omega) (by rw [HLN.out 2 (by omega)]; exact hjt)]; exact g2 j (by rw [HLN.out 2 (by omega)]; exact hjt)
          have u3 : wr.cell? ⟨b3, o3 + j, none⟩ = some (.int .i64 (pic vs 3 j)) := by rw [← pcv 3 (by omega) (by rw [HLN.out 3 (by omega)]; exact hjt)]; exact g3 j (by rw [HLN.out 3 (by omega)]; exact hjt)
          rw [f0] at p2
          rw [HLN.out 1 (by omega), f1] at p5
          rw [HLN.out 2 (by omega), f2] at p8
          rw [HLN.out 3 (by omega), f3] at p11
          clear g0 g1 g2 g3 f0 f1 f2 f3 pcv NX
          obtain ⟨Wn, hWn⟩ : ∃ Wn : Nat, ws 0 = (Wn : Int) := ⟨(ws 0).toNat, by omega⟩
          have CI := Lib.hid (fun v (hv : Below wr.heap.size wr v) => inks_any D da dc ((j % Wn : Nat) : Int) ((j / Wn : Nat) : Int) (fun i => pic vs i j) v ((HD.out.old (GW.out.trans (hv.mono (by have := GW.out.size; have := HSZ.out; omega)))).le (by have := GW.out.size; have := HSZ.out; have := hv.size; omega)) hDl (fun k hk => (ck_ok (ED.out _ (List.getElem_mem hk))).2.2.1))
          rw [hWn] at p0
          have hjw := Nat.div_le_self j Wn
          have r0 : ∀ q : Nat, q ≤ j → wrap64 (q : Int) = (q : Int) := fun q hq => w64i _ (by omega) (by omega)
          have r1 : (j : Int) % (Wn : Int) = ((j % Wn : Nat) : Int) := rfl
          have r2 : wrap64 ((j : Int) / (Wn : Int)) = ((j / Wn : Nat) : Int) := r0 _ hjw
          have r3 : ¬ (Wn : Int) = 0 := by omega
          have HDW : Hid (∀ i, drwL (ws 0).toNat (hs 0) D (pic vs) i j = inkR D (((j % Wn : Nat) : Int), ((j / Wn : Nat) : Int)) (fun i => pic vs i j) i) := Lib.hid (fun i => by
            have e := drwL_at (ws 0).toNat (hs 0) ED.out (pic vs) i j (by omega) (by
              have : (((ws 0).toNat : Nat) : Int) = ws 0 := by omega
              rw [this, HN0.out]; omega)
            rw [e, hWn]; rfl)
          clear hjw r0 hWn
          generalize ((j % Wn : Nat) : Int) = cx at *
          generalize ((j / Wn : Nat) : Int) = cy at *
          obtain ⟨fz, hfz⟩ : ∃ fz : Nat → Int, ∀ i, fz i = drwL (ws 0).toNat (hs 0) D (pic vs) i j := ⟨_, fun _ => rfl⟩
          have HFZ := Lib.hid hfz
          have CI2 : Hid (∀ v, Below wr.heap.size wr v → Calls Try.prog 39 #[.slice da D.length dc, .agg #[.int .i64 cx, .int .i64 cy], .agg #[.int .i64 (pic vs 0 j), .int .i64 (pic vs 1 j), .int .i64 (pic vs 2 j), .int .i64 (pic vs 3 j)]] v
              fun e u => e = .returned (.agg #[.int .i64 (fz 0), .int .i64 (fz 1), .int .i64 (fz 2), .int .i64 (fz 3)]) ∧ Below v.heap.size v u) := Lib.hid (fun v hv => by
            rw [hfz 0, hfz 1, hfz 2, hfz 3, HDW.out 0, HDW.out 1, HDW.out 2, HDW.out 3]; exact CI.out v hv)
          clear hfz
          clear CI
          have q1 : (0 : Int) ≤ (j : Int) := by omega
          have q2 : (j : Int) < (n : Int) := by omega
          generalize pic vs 0 j = z0 at *
          generalize pic vs 1 j = z1 at *
          generalize pic vs 2 j = z2 at *
          generalize pic vs 3 j = z3 at *
          go_upto_region 15 with fail
          refine region_freeL (P := Try.prog) [] 38 39 103 25 (.cells #[.int .i64 0, .int .i64 0, .int .i64 0, .int .i64 0] 25) (by kernel_rfl) (by decide) (by kernel_rfl) (fun _ _ _ _ _ h => h) ?_ (by kernel_rfl) (by kernel_rfl) alloc_i4 ?_
          · rfl
          apply Exists.intro
          refine ⟨?hqt2, ?hft2⟩
          case hqt2 =>
            intro X' hne
            haveI := hne
            simp only [List.take_succ_cons, List.take_zero]
            have L0 := fun m' : LaterX wr X' => m'.cell p0
            have L1 := fun m' : LaterX wr X' => m'.cell p2
            have L2 := fun m' : LaterX wr X' => m'.cell p5
            have L3 := fun m' : LaterX wr X' => m'.cell p8
            have L4 := fun m' : LaterX wr X' => m'.cell p11
            have L5 := fun m' : LaterX wr X' => m'.cell u0
            have L6 := fun m' : LaterX wr X' => m'.cell u1
            have L7 := fun m' : LaterX wr X' => m'.cell u2
            have L8 := fun m' : LaterX wr X' => m'.cell u3
            iterate 37 (go_big_quiet_want; go_big_quiet_op; go_big_quiet_on)
            go_big_quiet_want
            go_big_quiet_op
            apply Exists.intro
            refine ⟨fun nn => ?_, ?_⟩
            · exact laterX_of (CI2.out _ nn.2.1)
            go_big_quiet_on
            exact wpQuiet_nil rfl
          intro G0 w8 hb hG0 _
          simp only [List.take_succ_cons, List.take_zero, List.drop_succ_cons, List.drop_zero, ptrs, putsL]
          have HW8 := Lib.hid (HW.out.trans (hb.mono (by have := HW.out.size; have := HG.out; omega)))
          have hQ0 := hG0 38 (by omega) (by omega)
          have QB := Lib.hid (q4_blk hQ0.2.2)
          have HO8 : Hid (∃ a c, Ot w8 g (ws 0) (hs 0) a c (rws (ws 0).toNat (hs 0) D vs j) ∧ ∀ i, i < 4 → (Value.slice (a i) (rws (ws 0).toNat (hs 0) D vs j i).length (c i)).ownBlock ≠ some (G0 38)) := Lib.hid (by
            obtain ⟨a, c, h⟩ := HO.out
            exact ⟨a, c, h.later hb, fun i hi e => by have := ((h.own i hi).lt _ e).2; have := hQ0.1; omega⟩)
          have GB : Hid (g + 1 ≤ G0 38) := Lib.hid (by obtain ⟨a, c, h⟩ := HO.out; have := h.glt; omega)
          generalize G0 38 = gz at *
          clear hb hG0 hQ0 p0 p1 p2 p3 p4 p5 p6 p7 p8 p9 p10 p11 u0 u1 u2 u3 r1 r2 r3 CI2 HO HW
          obtain ⟨y0, y1, y2, y3, yf⟩ := QB.out
          have HQs := Lib.hid (QB.out.set (fz 0) (fz 1) (fz 2) (fz 3) (fz) rfl rfl rfl rfl)
          have HWs := Lib.hid (below_set4 HW8.out (b := gz) (by have := GB.out; omega) (.int .i64 (fz 0)) (.int .i64 (fz 1)) (.int .i64 (fz 2)) (.int .i64 (fz 3)))
          have HOs : Hid (∃ a c, Ot ((((w8.setCell ⟨gz, 0, none⟩ (.int .i64 (fz 0))).setCell ⟨gz, 1, none⟩ (.int .i64 (fz 1))).setCell ⟨gz, 2, none⟩ (.int .i64 (fz 2))).setCell ⟨gz, 3, none⟩ (.int .i64 (fz 3))) g (ws 0) (hs 0) a c (rws (ws 0).toNat (hs 0) D vs j) ∧ ∀ i, i < 4 → (Value.slice (a i) (rws (ws 0).toNat (hs 0) D vs j i).length (c i)).ownBlock ≠ some gz) := Lib.hid (by
            obtain ⟨a, c, h, hn⟩ := HO8.out
            have hk := GB.out
            exact ⟨a, c, (((h.apart 0 (by omega) hn _).apart 1 (by omega) hn _).apart 2 (by omega) hn _).apart 3 (by omega) hn _, hn⟩)
          have GZ : Hid (gz < w8.heap.size) := Lib.hid (cell_lt QB.out.1)
          have HM0 : Hid (Mid ((((w8.setCell ⟨gz, 0, none⟩ (.int .i64 (fz 0))).setCell ⟨gz, 1, none⟩ (.int .i64 (fz 1))).setCell ⟨gz, 2, none⟩ (.int .i64 (fz 2))).setCell ⟨gz, 3, none⟩ (.int .i64 (fz 3))) g gz (ws 0) (hs 0) (mid (ws 0).toNat (hs 0) D vs j 0)) := Lib.hid (by rw [mid_zero]; exact HOs.out)
          clear HOs HO8 QB HW8
          go_wp2_with fail
          generalize (((w8.setCell ⟨gz, 0, none⟩ (.int .i64 (fz 0))).setCell ⟨gz, 1, none⟩ (.int .i64 (fz 1))).setCell ⟨gz, 2, none⟩ (.int .i64 (fz 2))).setCell ⟨gz, 3, none⟩ (.int .i64 (fz 3)) = vS at *
          go_loopw [12] (fun i wr => ∃ k : Nat, k ≤ 4 ∧ i = .int .i64 k ∧ Hid (Below g v4 wr) ∧ Hid (Q4 wr gz (fz)) ∧ Hid (Mid wr g gz (ws 0) (hs 0) (mid (ws 0).toNat (hs 0) D vs j k))) (fun i _ => 4 - (intOf i).toNat)
          case atStart => exact ⟨0, by omega, rfl, HWs, HQs, HM0⟩
          case round =>
            obtain ⟨k, hk, rfl, HW3, HQ3, HM3⟩ := hrel
            clear HWs HQs HM0
            by_cases hlt : k < 4
            · obtain ⟨a, c, hO, hn⟩ := HM3.out
              have x0 := hO.sl k hlt
              have x1 := HQ3.out.at hlt
              have q1 : (0 : Int) ≤ (k : Int) := by omega
              have q2 : (k : Int) < 4 := by omega
              have HL := Lib.hid (mid_len (ws 0).toNat (hs 0) D vs j k)
              have HS := Lib.hid (mid_succ (ws 0).toNat (hs 0) D vs j k)
              have HS2 : Hid (upd (mid (ws 0).toNat (hs 0) D vs j k) k (mid (ws 0).toNat (hs 0) D vs j k k ++ [fz k]) = mid (ws 0).toNat (hs 0) D vs j (k + 1)) := Lib.hid (by rw [HFZ.out k]; exact HS.out)
              have HO3 := Lib.hid hO
              have HN3 := Lib.hid hn
              have HMQ : ∃ xq, xq = mid (ws 0).toNat (hs 0) D vs j (k + 1) := ⟨_, rfl⟩
              obtain ⟨xq, hxq⟩ := HMQ
              rw [← hxq] at HS2
              have HXQ := Lib.hid hxq
              clear hO hn HM3 HS hxq
              generalize mid (ws 0).toNat (hs 0) D vs j k = xs at *
              generalize hzz : fz k = z at *
              have HW4 := HW3.out.size
              clear hzz
              go_upto_region 19 with fail
              refine region_freeM (P := Try.prog) [0] 8 9 103 (fun _ y u => ∃ b, y = .slice (some ⟨b, 0, none⟩) 1 1 ∧ wr.heap.size ≤ b ∧ u.cell? ⟨b, 0, none⟩ = some (.int .i64 z)) (fun _ y u u' h hb => by obtain ⟨b, e1, e2, e3⟩ := h; exact ⟨b, e1, e2, cell_on e3 hb⟩) (by kernel_rfl) (by decide) (by kernel_rfl) (fun _ _ _ _ _ h => h) ?_ (by kernel_rfl) ?_
              · rfl
              apply Exists.intro
              refine ⟨?hqt3, ?hmk3, ?hft3⟩
              case hqt3 =>
                intro X' hne
                haveI := hne
                simp only [List.take_succ_cons, List.take_zero]
                have L0 := fun m' : LaterP wr X' => m'.cell x0
                have L1 := fun m' : LaterP wr X' => m'.cell x1
                iterate 8 (go_big_quiet_want; go_big_quiet_op; go_big_quiet_on)
                exact wpQuiet_nil rfl
              case hmk3 =>
                intro jj h1 h2 oo ho v hv
                obtain rfl : jj = 8 := by omega
                have ho' := Option.some.inj ho
                exact one_mk oo _ _ z (by rw [← ho']) rfl wr.heap.size v hv.size
              intro G w9 hb hG
              obtain ⟨gn, hgn, hgl, hgc⟩ := hG 8 (by decide) (by decide)
              simp only [List.take_succ_cons, List.take_zero, List.drop_succ_cons, List.drop_zero, mks, putsL]
              rw [hgn]
              have HO9 := Lib.hid (HO3.out.later hb)
              have HQ9 := Lib.hid (HQ3.out.later hb)
              have HW9 := Lib.hid (HW3.out.trans (hb.mono (by have := HO3.out.glt; omega)))
              have HOW := Lib.hid (HO9.out.own k hlt)
              have SZ9 : Hid (g + 1 ≤ w9.heap.size) := Lib.hid (by have := HO9.out.glt; omega)
              obtain ⟨i0, hi, hz0, hz1, hz2⟩ := info_parts Try.infoInt
              clear hb hG hgn hgl x0 x1 HO3 HQ3 HW3
              go_wp2_with (at_builtin; refine wpList_append_own_at _ rfl _ _ 38 rfl (g + 1) 3 i0 (.int .i64 0) 1 8 Try.underlying38 hi hz0 hz1 hz2 rfl (by decide) _ _ _ rfl HOW.out ⟨gn, 0, none⟩ 1 1 [.int .i64 z] rfl rfl ?t1 ?t2 ?t3 ?t4 SZ9.out ?_)
              case t1 =>
                intro j' u hj'
                match j', hj' with
                | 0, hj' => simp at hj'; subst hj'; simpa [Addr.add] using hgc
              case t2 => intro u hu; simp at hu; subst hu; rfl
              case t3 => have := HL.out; unfold maxLen; omega
              case t4 => have := HL.out; omega
              intro v' w10 hown hgrow _ hat
              obtain ⟨a', c', rfl⟩ := own_slice hown
              have HM10 := Lib.hid (HO9.out.mid HN3.out (cell_lt HQ9.out.1) hlt hown hgrow hat)
              rw [HS2.out] at HM10
              have HQ10 := Lib.hid ((HQ9.out.grown hgrow (HN3.out k hlt)).apart (g := g) (k * 3 + 2) (by have := GB.out; omega) (.slice a' ((xs k).length + 1) c'))
              have HW10 := Lib.hid ((below_grow HW9.out hgrow (by have := SZ9.out; omega) (fun b hb => by have := (HOW.out.lt b hb).1; omega)).setCell (p := ⟨g, k * 3 + 2, none⟩) (Nat.le_refl _) (.slice a' ((xs k).length + 1) c'))
              obtain ⟨y0, yf⟩ := HO9.out.grown hlt hgrow
              clear hown hgrow hat HO9 HQ9 HW9 HOW HS2 HL hgc HN3
              go_wp2_with fail
              go_roundw
              case rel => exact ⟨k + 1, by omega, by go_num, HW10, HQ10, by rw [← HXQ.out]; exact HM10⟩
              case measure => simp [intOf] <;> omega
            · obtain rfl : k = 4 := by omega
              have HE3 : Hid (∃ a c, Ot wr g (ws 0) (hs 0) a c (rws (ws 0).toNat (hs 0) D vs (j + 1))) := Lib.hid (by
                obtain ⟨a, c, hO, -⟩ := HM3.out
                exact ⟨a, c, hO.congr fun i hi => by unfold mid; rw [if_pos hi]⟩)
              clear HM3 HQ3
              go_wp2_with fail
              go_roundw
              case rel => exact ⟨j + 1, by omega, by go_num, HW3, HE3⟩
              case measure => simp [intOf] <;> omega
        · obtain rfl : j = n := by omega
          obtain ⟨a, c, hO⟩ := HO.out
          have RQ : Hid (RW = (fun _ => ws 0) ∧ RH = (fun _ => hs 0) ∧ RV = rws (ws 0).toNat (hs 0) D vs j) := Lib.hid (by
            have r0 := RE0.out
            obtain ⟨r1, r2, r3, r4⟩ := REQ.out
            rw [r0] at r1
            refine ⟨?_, ?_, ?_⟩
            · rw [← r2]; funext i; unfold ovW; rw [r1, if_pos rfl]
            · rw [← r3]; funext i; unfold ovH; rw [r1, if_pos rfl]
            · rw [← r4]; funext i; unfold ovV rws; rw [r1, if_pos rfl, HLN.out 0 (by omega)])
          have ZR : Hid (Z12 wr (sz + 1)) := Lib.hid (by
            obtain ⟨z0, z1, z2, z3, z4, z5, z6, z7, z8, z9, z10, z11⟩ := Z4.out
            have cc : ∀ x z, v4.cell? ⟨sz + 1, x, none⟩ = some z → wr.cell? ⟨sz + 1, x, none⟩ = some z := fun x z hz => (HW.out.cell (p := ⟨sz + 1, x, none⟩) SZ4.out).trans hz
            exact ⟨cc _ _ z0, cc _ _ z1, cc _ _ z2, cc _ _ z3, cc _ _ z4, cc _ _ z5, cc _ _ z6, cc _ _ z7, cc _ _ z8, cc _ _ z9, cc _ _ z10, cc _ _ z11⟩)
          have FR : Hid (∀ j, wr.frozen? ⟨sz + 1, j, none⟩ = false) := Lib.hid (fun j => (HW.out.frozen (p := ⟨sz + 1, j, none⟩) SZ4.out).trans (F4.out j))
          have GW := Lib.hid (G4.out.trans (HW.out.mono (by have := G4.out.size; have := HSZ.out; have := HG.out; have := SZ4.out; omega)))
          have HOX := Lib.hid hO
          have r0 := RE0.out
          clear hO HO RE0 REQ OT0 HWb ED HN HLN P7
          generalize rws (ws 0).toNat (hs 0) D vs j = xs at *
          obtain ⟨e1, e2, e3⟩ := RQ.out
          subst r0 e1 e2 e3
          clear RQ
          have hO := HOX.out
          have h0 : wr.cell? ⟨g, 0, none⟩ = some (.int .i64 (ws 0)) := hO.wd 0 (by omega)
          have h1 : wr.cell? ⟨g, 1, none⟩ = some (.int .i64 (hs 0)) := hO.ht 0 (by omega)
          have h2 : wr.cell? ⟨g, 2, none⟩ = some (.slice (a 0) (RV 0).length (c 0)) := hO.sl 0 (by omega)
          have h3 : wr.cell? ⟨g, 3, none⟩ = some (.int .i64 (ws 0)) := hO.wd 1 (by omega)
          have h4 : wr.cell? ⟨g, 4, none⟩ = some (.int .i64 (hs 0)) := hO.ht 1 (by omega)
          have h5 : wr.cell? ⟨g, 5, none⟩ = some (.slice (a 1) (RV 1).length (c 1)) := hO.sl 1 (by omega)
          have h6 : wr.cell? ⟨g, 6, none⟩ = some (.int .i64 (ws 0)) := hO.wd 2 (by omega)
          have h7 : wr.cell? ⟨g, 7, none⟩ = some (.int .i64 (hs 0)) := hO.ht 2 (by omega)
          have h8 : wr.cell? ⟨g, 8, none⟩ = some (.slice (a 2) (RV 2).length (c 2)) := hO.sl 2 (by omega)
          have h9 : wr.cell? ⟨g, 9, none⟩ = some (.int .i64 (ws 0)) := hO.wd 3 (by omega)
          have h10 : wr.cell? ⟨g, 10, none⟩ = some (.int .i64 (hs 0)) := hO.ht 3 (by omega)
          have h11 : wr.cell? ⟨g, 11, none⟩ = some (.slice (a 3) (RV 3).length (c 3)) := hO.sl 3 (by omega)
          have f0 := FR.out
          clear hO
          obtain ⟨z0, z1, z2, z3, z4, z5, z6, z7, z8, z9, z10, z11⟩ := ZR.out
          go_wp2_with fail
          have K := st12_at ZR.out (.int .i64 (ws 0)) (.int .i64 (hs 0)) (.slice (a 0) (RV 0).length (c 0)) (.int .i64 (ws 0)) (.int .i64 (hs 0)) (.slice (a 1) (RV 1).length (c 1)) (.int .i64 (ws 0)) (.int .i64 (hs 0)) (.slice (a 2) (RV 2).length (c 2)) (.int .i64 (ws 0)) (.int .i64 (hs 0)) (.slice (a 3) (RV 3).length (c 3))
          have PR := Lib.hid (HOX.out.res (w := w) SZ4.out (by have := HSZ.out; omega) (by rw [HSZ.out]; exact GW.out) (.int .i64 (ws 0)) (.int .i64 (hs 0)) (.slice (a 0) (RV 0).length (c 0)) (.int .i64 (ws 0)) (.int .i64 (hs 0)) (.slice (a 1) (RV 1).length (c 1)) (.int .i64 (ws 0)) (.int .i64 (hs 0)) (.slice (a 2) (RV 2).length (c 2)) (.int .i64 (ws 0)) (.int .i64 (hs 0)) (.slice (a 3) (RV 3).length (c 3)))
          unfold st12 at K PR
          obtain ⟨k0, k1, k2, k3, k4, k5, k6, k7, k8, k9, k10, k11⟩ := K
          exact bodyPost_ret (v := .tuple #[.agg #[.int .i64 (ws 0), .int .i64 (hs 0), .slice (a 0) (RV 0).length (c 0), .int .i64 (ws 0), .int .i64 (hs 0), .slice (a 1) (RV 1).length (c 1), .int .i64 (ws 0), .int .i64 (hs 0), .slice (a 2) (RV 2).length (c 2), .int .i64 (ws 0), .int .i64 (hs 0), .slice (a 3) (RV 3).length (c 3)], .int .i64 0]) (by simp [results, Try.results22, go_sem, k0, k1, k2, k3, k4, k5, k6, k7, k8, k9, k10, k11]) rfl PR.out
end Go.Proofs.Ytjclioakdmilmaa
end
section
namespace Go.Proofs.Ytjclioakdmilmaa
open Go.RowKit
open Num Ink
set_option linter.unusedVariables false
theorem ovV_len {ws hs : Nat → Int} {vs : Nat → List Int} {D : List Dr} (h : (vs 0).length ≤ 65536) (i : Nat) : (ovV ws hs vs D i).length ≤ 65536 := by
  unfold ovV
  split
  · simpa using h
  · simp
set_option maxRecDepth 100000 in
set_option maxHeartbeats 16000000 in
theorem inkovers_law (ws hs : Nat → Int) (ad : Nat → Option Addr) (cp : Nat → Nat) (vs : Nat → List Int) (D : List Dr) (da : Option Addr) (dac : Nat) (W : World)
    (hN : Ns4 W ad vs) (hw : ∀ i, i < 4 → I64 (ws i)) (hh : ∀ i, i < 4 → I64 (hs i))
    (hDa : Drs W W.heap.size da D) (hma : D.length ≤ maxLen) (hka : ∀ q ∈ D, q.l.length ≤ maxLen ∧ (-9223372036854775808 ≤ q.k ∧ q.k ≤ 9223372036854775807)) :
    Calls Try.prog 5 #[pl4 ws hs fun i => .slice (ad i) (vs i).length (cp i), .slice da D.length dac] W fun e u => e = .returned (.bool true) ∧ Below W.heap.size W u := by
  have HA := Lib.hid hDa
  have HK : Hid (∀ k (hk : k < D.length), -9223372036854775808 ≤ D[k].k ∧ D[k].k ≤ 9223372036854775807) := Lib.hid (fun k hk => (hka _ (List.getElem_mem hk)).2)
  have FA := Lib.hid (fun v hv => few_any D da dac v (hDa.old hv |>.le hv.size) hma (fun k hk => (hka _ (List.getElem_mem hk)).1))
  have IA := Lib.hid (fewB_iff (D := D))
  have HW := Lib.hid hw
  have HH := Lib.hid hh
  have NS := Lib.hid (fun v (hv : Below W.heap.size W v) => hN.later hv)
  have SA := Lib.hid (fun v => small_any ws hs vs ad cp v)
  clear hDa hma hka hN hw hh
  unfold pl4 at *
  have b0 := below_al W (.cells #[.int .i64 (ws 0), .int .i64 (hs 0), .slice (ad 0) (vs 0).length (cp 0), .int .i64 (ws 1), .int .i64 (hs 1), .slice (ad 1) (vs 1).length (cp 1), .int .i64 (ws 2), .int .i64 (hs 2), .slice (ad 2) (vs 2).length (cp 2), .int .i64 (ws 3), .int .i64 (hs 3), .slice (ad 3) (vs 3).length (cp 3)] 41)
  have PP := Lib.hid (P12.new W ws hs ad cp vs 41)
  have G0 := Lib.hid b0
  clear b0
  go_enter Try.func5, Try.ntmps5
  go_upto_region 1 with fail
  generalize W.alloc (.cells #[.int .i64 (ws 0), .int .i64 (hs 0), .slice (ad 0) (vs 0).length (cp 0), .int .i64 (ws 1), .int .i64 (hs 1), .slice (ad 1) (vs 1).length (cp 1), .int .i64 (ws 2), .int .i64 (hs 2), .slice (ad 2) (vs 2).length (cp 2), .int .i64 (ws 3), .int .i64 (hs 3), .slice (ad 3) (vs 3).length (cp 3)] 41) = v0 at *
  obtain ⟨h0, h1, h2, h3, h4, h5, h6, h7, h8, h9, h10, h11⟩ := PP.out
  go_wp2_with fail
  refine (SA.out _).mono ?_
  rintro e v01 ⟨⟨bb, rfl, hsm⟩, hb⟩
  have G01 := Lib.hid (below_on G0.out hb)
  have PP1 := Lib.hid (PP.out.later hb)
  have HS := Lib.hid hsm
  clear hb hsm SA G0 PP h0 h1 h2 h3 h4 h5 h6 h7 h8 h9 h10 h11
  cases bb
  · clear HS
    go_wp2_with fail
    refine (awake53 _).mono ?_
    rintro e u ⟨rfl, hb⟩
    have G := Lib.hid (below_on G01.out hb)
    clear hb
    go_wp2
    go_ret
    exact ⟨rfl, G.out⟩
  have HS2 := Lib.hid (HS.out rfl)
  clear HS
  go_wp2_with fail
  refine (FA.out _ G01.out).mono ?_
  rintro e v1 ⟨rfl, hb⟩
  have G1 := Lib.hid (below_on G01.out hb)
  have PP2 := Lib.hid (PP1.out.later hb)
  clear hb FA
  cases fa : fewB D
  · go_wp2_with fail
    refine (awake53 _).mono ?_
    rintro e u ⟨rfl, hb⟩
    have G := Lib.hid (below_on G1.out hb)
    clear hb
    go_wp2
    go_ret
    exact ⟨rfl, G.out⟩
  have lA := (IA.out.1 fa).1
  have LA := Lib.hid (IA.out.1 fa).2
  clear IA fa
  have HA1 := Lib.hid ((HA.out.old G1.out).le G1.out.size)
  have TA := Lib.hid (tight_any D da dac v1 HA1.out lA LA.out)
  clear HA
  go_wp2_with fail
  refine TA.out.mono ?_
  rintro e v2 ⟨⟨bb, rfl⟩, hb⟩
  have G2 := Lib.hid (below_on G1.out hb)
  have HA2 := Lib.hid ((HA1.out.old hb).le hb.size)
  have PP3 := Lib.hid (PP2.out.later hb)
  clear hb TA G1 HA1
  cases bb
  · go_wp2_with fail
    refine (awake53 _).mono ?_
    rintro e u ⟨rfl, hb⟩
    have G := Lib.hid (below_on G2.out hb)
    clear hb
    go_wp2
    go_ret
    exact ⟨rfl, G.out⟩
  have hl : ∀ i, i < 4 → (vs i).length ≤ 65536 := fun i hi => by have := (HS2.out i hi).2.2; omega
  have PT1 := Lib.hid (Over_any ws hs ad cp vs D da dac v2 (NS.out v2 G2.out) hl HW.out HH.out HA2.out (by omega))
  have PT2 := Lib.hid (fun v3 (hb : Below v2.heap.size v2 v3) v (hv : Below v3.heap.size v3 v) => rOver_any ws hs ad cp vs D da dac v (NS.out v (below_on (below_on G2.out hb) hv)) hl ((((HA2.out.old hb).le hb.size).old hv).le hv.size) (by omega) HK.out)
  have XL : Hid (∀ i, i < 4 → (ovV ws hs vs D i).length ≤ 65536) := Lib.hid (fun i _ => ovV_len (hl 0 (by omega)) i)
  clear NS HW HH HA2 HK HS2 hl G01 PP1 PP2
  unfold pl4 at PT1 PT2
  generalize ovE ws hs vs D = E at *
  generalize ovW ws hs vs D = xW at *
  generalize ovH ws hs vs D = xH at *
  generalize ovV ws hs vs D = xV at *
  obtain ⟨h0, h1, h2, h3, h4, h5, h6, h7, h8, h9, h10, h11⟩ := PP3.out
  go_upto_region 3 with fail
  go_wp2_with fail
  refine PT1.out.mono ?_
  rintro e v3 ⟨xad, xcp, rfl, hN, -, hb⟩
  simp only [pl4]
  have XN := Lib.hid hN
  have PT3 := Lib.hid (PT2.out v3 hb)
  have PP4 := Lib.hid (PP3.out.later hb)
  clear h0 h1 h2 h3 h4 h5 h6 h7 h8 h9 h10 h11
  have G3 := Lib.hid (below_on G2.out hb)
  clear hN hb PT1 PT2 G2
  go_upto_region 4 with fail
  have b6 := below_al v3 (.cells #[.int .i64 (xW 0), .int .i64 (xH 0), .slice (xad 0) (xV 0).length (xcp 0), .int .i64 (xW 1), .int .i64 (xH 1), .slice (xad 1) (xV 1).length (xcp 1), .int .i64 (xW 2), .int .i64 (xH 2), .slice (xad 2) (xV 2).length (xcp 2), .int .i64 (xW 3), .int .i64 (xH 3), .slice (xad 3) (xV 3).length (xcp 3)] 41)
  have XP := Lib.hid (P12.new v3 xW xH xad xcp xV 41)
  have XN6 := Lib.hid (XN.out.later b6)
  have PT4 := Lib.hid (PT3.out _ b6)
  have PP5 := Lib.hid (PP4.out.later b6)
  have G6 := Lib.hid (below_on G3.out b6)
  clear b6 XN G3 PT3
  generalize v3.alloc (.cells #[.int .i64 (xW 0), .int .i64 (xH 0), .slice (xad 0) (xV 0).length (xcp 0), .int .i64 (xW 1), .int .i64 (xH 1), .slice (xad 1) (xV 1).length (xcp 1), .int .i64 (xW 2), .int .i64 (xH 2), .slice (xad 2) (xV 2).length (xcp 2), .int .i64 (xW 3), .int .i64 (xH 3), .slice (xad 3) (xV 3).length (xcp 3)] 41) = v6 at *
  generalize v3.heap.size = xb at *
  obtain ⟨h0, h1, h2, h3, h4, h5, h6, h7, h8, h9, h10, h11⟩ := PP5.out
  go_wp2_with fail
  refine PT4.out.mono ?_
  rintro e v7 ⟨yad, ycp, rfl, hN, -, hb⟩
  simp only [pl4]
  have YN := Lib.hid hN
  have XP7 := Lib.hid (XP.out.later hb)
  have XN7 := Lib.hid (XN6.out.later hb)
  have G7 := Lib.hid (below_on G6.out hb)
  clear hN hb PT4 XP XN6 G6
  clear h0 h1 h2 h3 h4 h5 h6 h7 h8 h9 h10 h11 PP3 PP4 PP5
  go_upto_region 5 with fail
  have b8 := below_al v7 (.cells #[.int .i64 (xW 0), .int .i64 (xH 0), .slice (yad 0) (xV 0).length (ycp 0), .int .i64 (xW 1), .int .i64 (xH 1), .slice (yad 1) (xV 1).length (ycp 1), .int .i64 (xW 2), .int .i64 (xH 2), .slice (yad 2) (xV 2).length (ycp 2), .int .i64 (xW 3), .int .i64 (xH 3), .slice (yad 3) (xV 3).length (ycp 3)] 41)
  have YP := Lib.hid (P12.new v7 xW xH yad ycp xV 41)
  have YN8 := Lib.hid (YN.out.later b8)
  have XP8 := Lib.hid (XP7.out.later b8)
  have XN8 := Lib.hid (XN7.out.later b8)
  have G8 := Lib.hid (below_on G7.out b8)
  clear b8 YN XP7 XN7 G7
  generalize v7.alloc (.cells #[.int .i64 (xW 0), .int .i64 (xH 0), .slice (yad 0) (xV 0).length (ycp 0), .int .i64 (xW 1), .int .i64 (xH 1), .slice (yad 1) (xV 1).length (ycp 1), .int .i64 (xW 2), .int .i64 (xH 2), .slice (yad 2) (xV 2).length (ycp 2), .int .i64 (xW 3), .int .i64 (xH 3), .slice (yad 3) (xV 3).length (ycp 3)] 41) = v8 at *
  generalize v7.heap.size = yb at *
  have SM := Lib.hid (same4_true xW xH xV xad yad xcp ycp v8 XN8.out YN8.out XL.out)
  unfold pl4 at SM
  have d9 : (E == E) = true := by simp
  obtain ⟨h0, h1, h2, h3, h4, h5, h6, h7, h8, h9, h10, h11⟩ := XP8.out
  obtain ⟨g0, g1, g2, g3, g4, g5, g6, g7, g8, g9, g10, g11⟩ := YP.out
  go_wp2_with fail
  refine SM.out.mono ?_
  rintro e v9 ⟨rfl, hb⟩
  have G9 := Lib.hid (below_on G8.out hb)
  clear hb SM XP8 YP XN8 YN8 G8 h0 h1 h2 h3 h4 h5 h6 h7 h8 h9 h10 h11 g0 g1 g2 g3 g4 g5 g6 g7 g8 g9 g10 g11
  go_wp2_with fail
  refine (awake53 _).mono ?_
  rintro e u ⟨rfl, hb⟩
  have G := Lib.hid (below_on G9.out hb)
  clear hb
  go_wp2
  go_ret
  exact ⟨rfl, G.out⟩
end Go.Proofs.Ytjclioakdmilmaa
end
