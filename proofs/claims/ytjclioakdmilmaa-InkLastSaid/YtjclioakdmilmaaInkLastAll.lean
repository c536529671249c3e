/- Several texts of layer cut in one (joined by cc.py). -/
import Derived.Test.YtjclioakdmilmaaInkPlainG
import Derived.Test.YtjclioakdmilmaaInkP
import Derived.Test.YtjclioakdmilmaaInkT
import Derived.Test.YtjclioakdmilmaaInkQ
import Derived.Test.YtjclioakdmilmaaInkS
import Derived.Test.YtjclioakdmilmaaInkR
section
set_option linter.unusedVariables false
namespace Go.Proofs.Ytjclioakdmilmaa.Ink
open Num
theorem if2 {α : Type} {p q : Prop} [Decidable p] [Decidable q] (h : ¬ (p ∧ q)) (A B : α) : (if p then if q then A else B else B) = B := by
  split
  · rename_i hp
    rw [if_neg (fun hq => h ⟨hp, hq⟩)]
  · rfl
/-- the cells of the segment that ends in point i of a path -/
def segC (l : List (Int × Int)) (i : Nat) : List (Int × Int) := cels (l.getD (i - 1) (0, 0)).1 (l.getD (i - 1) (0, 0)).2 (l.getD i (0, 0)).1 (l.getD i (0, 0)).2
/-- a cell lies in one of the first n segments -/
def hit (l : List (Int × Int)) (n : Nat) (p : Int × Int) : Prop := ∃ i, i < n ∧ p ∈ segC l i
open Classical in
/-- the operation covers the cell -/
noncomputable def covB (k x0 y0 x1 y1 : Int) (l : List (Int × Int)) (p : Int × Int) : Bool :=
  if k = 2 then decide (hit l l.length p) else ((decide (x0 ≤ p.1) && decide (p.1 ≤ x1)) && decide (y0 ≤ p.2)) && decide (p.2 ≤ y1)
noncomputable def Dr.cov (x : Dr) (p : Int × Int) : Bool := covB x.k x.x0 x.y0 x.x1 x.y1 x.l p
theorem hit_zero (l : List (Int × Int)) (p : Int × Int) : ¬ hit l 0 p := fun ⟨i, h, _⟩ => by omega
theorem hit_succ {l : List (Int × Int)} {n : Nat} {p : Int × Int} : hit l (n + 1) p ↔ hit l n p ∨ p ∈ segC l n := by
  constructor
  · rintro ⟨i, h, hp⟩
    by_cases e : i = n
    · subst e; exact .inr hp
    · exact .inl ⟨i, by omega, hp⟩
  · rintro (⟨i, h, hp⟩ | h)
    · exact ⟨i, by omega, hp⟩
    · exact ⟨n, by omega, h⟩
theorem hit_le {l : List (Int × Int)} {n m : Nat} {p : Int × Int} (h : hit l n p) (hm : n ≤ m) : hit l m p := by
  obtain ⟨i, h1, h2⟩ := h; exact ⟨i, by omega, h2⟩
theorem segC_at (l : List (Int × Int)) (k : Nat) (h : k < l.length) (h' : k - 1 < l.length) : segC l k = cels l[k - 1].1 l[k - 1].2 l[k].1 l[k].2 := by
  simp [segC, h, h']
theorem cov_hit {k x0 y0 x1 y1 : Int} {l : List (Int × Int)} {p : Int × Int} (hk : k = 2) {n : Nat} (hn : n ≤ l.length) (h : hit l n p) : covB k x0 y0 x1 y1 l p = true := by
  unfold covB; rw [if_pos hk]; simpa using hit_le h hn
theorem cov_miss {k x0 y0 x1 y1 : Int} {l : List (Int × Int)} {p : Int × Int} (hk : k = 2) (h : ¬ hit l l.length p) : covB k x0 y0 x1 y1 l p = false := by
  unfold covB; rw [if_pos hk]; simpa using h
theorem cov_box {k x0 y0 x1 y1 : Int} {l : List (Int × Int)} {p : Int × Int} (hk : ¬ k = 2) : covB k x0 y0 x1 y1 l p = (((decide (x0 ≤ p.1) && decide (p.1 ≤ x1)) && decide (y0 ≤ p.2)) && decide (p.2 ≤ y1)) := by
  unfold covB; rw [if_neg hk]
/-- the cells of the path are those of the segments -/
theorem mem_pth (l : List (Int × Int)) (k : Nat) (hk : k < l.length) (hn : (l.all fun p => nr p.1 p.2) = true) (p : Int × Int) : p ∈ pth l k ↔ hit l (k + 1) p := by
  induction k with
  | zero =>
    rw [hit_succ, pth_zero l hk, segC_at l 0 hk hk]
    have h0 : nr l[0].1 l[0].2 = true := by rw [List.all_eq_true] at hn; exact hn _ (List.getElem_mem hk)
    show p ∈ [l[0]] ↔ hit l 0 p ∨ p ∈ cels l[0].1 l[0].2 l[0].1 l[0].2
    rw [cels_same h0]
    constructor
    · intro h; exact .inr h
    · rintro (h | h)
      · exact absurd h (hit_zero l p)
      · exact h
  | succ k ih =>
    rw [hit_succ, pth_step l k hk, List.mem_append, ih (by omega), segC_at l (k + 1) hk (by omega)]
    rfl
theorem putL_at (w : Nat) (h : Int) (ik : Nat → Int) (l : List (Int × Int)) (V : Pic) (i j : Nat) (hw : 0 < w) (hj : (j : Int) < w * h) :
    putL w h ik l V i j = if (((j % w : Nat) : Int), ((j / w : Nat) : Int)) ∈ l then ik i else V i j := by
  have key : ∀ p : Int × Int, ((0 ≤ p.1 ∧ p.1 < (w : Int) ∧ 0 ≤ p.2 ∧ p.2 < h) ∧ (j : Int) = p.2 * w + p.1) ↔ (((j % w : Nat) : Int), ((j / w : Nat) : Int)) = p := by
    intro p
    have hq : j % w < w := Nat.mod_lt _ hw
    have he : w * (j / w) + j % w = j := Nat.div_add_mod _ _
    constructor
    · rintro ⟨⟨h1, h2, h3, h4⟩, h5⟩
      obtain ⟨x, hx⟩ : ∃ x : Nat, p.1 = (x : Int) := ⟨p.1.toNat, by omega⟩
      obtain ⟨y, hy⟩ : ∃ y : Nat, p.2 = (y : Int) := ⟨p.2.toNat, by omega⟩
      rw [hx, hy] at h5
      have h6 : j = y * w + x := by exact_mod_cast h5
      have hxw : x < w := by omega
      have e1 : j / w = y := by
        refine Nat.div_eq_of_lt_le (by omega) ?_
        rw [Nat.add_mul]; omega
      have e2 : j % w = x := by
        rw [e1, Nat.mul_comm] at he; omega
      rw [e1, e2, ← hx, ← hy]
    · rintro rfl
      have hr : ((j / w : Nat) : Int) < h := by
        have h0 : (w : Int) * ((j / w : Nat) : Int) + ((j % w : Nat) : Int) = (j : Int) := by exact_mod_cast he
        have h1 : (w : Int) * ((j / w : Nat) : Int) < w * h := by omega
        exact Int.lt_of_mul_lt_mul_left h1 (by omega)
      refine ⟨⟨Int.natCast_nonneg _, Int.ofNat_lt.2 hq, Int.natCast_nonneg _, hr⟩, ?_⟩
      have h0 : (w : Int) * ((j / w : Nat) : Int) + ((j % w : Nat) : Int) = (j : Int) := by exact_mod_cast he
      simp only
      rw [Int.mul_comm] at h0; omega
  induction l generalizing V with
  | nil => simp [putL]
  | cons p l ih =>
    show putL w h ik l (putC w h ik p V) i j = _
    rw [ih]
    unfold putC
    generalize (((j % w : Nat) : Int), ((j / w : Nat) : Int)) = q at *
    by_cases h1 : q ∈ l
    · rw [if_pos h1, if_pos (by simp [h1])]
    · rw [if_neg h1]
      by_cases h2 : q = p
      · rw [if_pos ((key p).2 h2), if_pos (by simp [h2])]
      · rw [if_neg (fun h => h2 ((key p).1 h)), if_neg (by simp [h1, h2])]
/-- one operation, at one cell -/
theorem drw_at (w : Nat) (h : Int) {x : Dr} (hx : x.err = 0) (V : Pic) (i j : Nat) (hw : 0 < w) (hj : (j : Int) < w * h) :
    drw w h x V i j = if x.cov (((j % w : Nat) : Int), ((j / w : Nat) : Int)) = true then x.ink i else V i j := by
  obtain ⟨hk, hb, hl, -, -, -, hn⟩ := ck_ok hx
  unfold drw Dr.cov
  by_cases e : x.k = 2
  · rw [if_pos e, putL_at w h _ _ _ _ _ hw hj]
    have hl0 : 0 < x.l.length := by
      rw [e] at hb
      simp [bareB] at hb
      exact hb.2
    have hm := mem_pth x.l (x.l.length - 1) (by omega) hn (((j % w : Nat) : Int), ((j / w : Nat) : Int))
    rw [show x.l.length - 1 + 1 = x.l.length by omega] at hm
    by_cases h1 : hit x.l x.l.length (((j % w : Nat) : Int), ((j / w : Nat) : Int))
    · rw [if_pos (hm.2 h1), if_pos (cov_hit e (Nat.le_refl _) h1)]
    · rw [if_neg (fun h2 => h1 (hm.1 h2)), cov_miss e h1, if_neg (by simp)]
  · rw [if_neg e, cov_box e]
    unfold filP
    by_cases h1 : x.x0 ≤ ((j % w : Nat) : Int) ∧ ((j % w : Nat) : Int) ≤ x.x1 ∧ x.y0 ≤ ((j / w : Nat) : Int) ∧ ((j / w : Nat) : Int) ≤ x.y1
    · rw [if_pos h1, if_pos (by simp only [Bool.and_eq_true, decide_eq_true_eq]; exact ⟨⟨⟨h1.1, h1.2.1⟩, h1.2.2.1⟩, h1.2.2.2⟩)]
    · rw [if_neg h1, if_neg (by simp only [Bool.and_eq_true, decide_eq_true_eq]; rintro ⟨⟨⟨a1, a2⟩, a3⟩, a4⟩; exact h1 ⟨a1, a2, a3, a4⟩)]
/-- the inks of a cell after some operations: those of the last that covers it, or the given ones -/
noncomputable def inkR (D : List Dr) (p : Int × Int) (V : Nat → Int) (i : Nat) : Int := D.foldl (fun z x => if x.cov p = true then x.ink i else z) (V i)
theorem inkR_step (D : List Dr) (k : Nat) (hk : k < D.length) (p : Int × Int) (V : Nat → Int) (i : Nat) : inkR (D.take (k + 1)) p V i = if D[k].cov p = true then D[k].ink i else inkR (D.take k) p V i := by
  unfold inkR; rw [List.take_succ_eq_append_getElem hk, List.foldl_append]; rfl
theorem drwL_at (w : Nat) (h : Int) {D : List Dr} (hD : ∀ x ∈ D, x.err = 0) (V : Pic) (i j : Nat) (hw : 0 < w) (hj : (j : Int) < w * h) :
    drwL w h D V i j = inkR D (((j % w : Nat) : Int), ((j / w : Nat) : Int)) (fun i => V i j) i := by
  unfold drwL inkR
  induction D generalizing V with
  | nil => rfl
  | cons x D ih =>
    show D.foldl (fun V x => drw w h x V) (drw w h x V) i j = _
    rw [ih (fun y hy => hD y (by simp [hy]))]
    show _ = D.foldl _ (if x.cov _ = true then x.ink i else V i j)
    rw [← drw_at w h (hD x (by simp)) V i j hw hj]
end Go.Proofs.Ytjclioakdmilmaa.Ink
end
section
set_option linter.unusedVariables false
namespace Go.Proofs.Ytjclioakdmilmaa.Ink
open Num
theorem pn_bad {w h : Int} {n : Nat} {D : List Dr} (e : pnE w h n D ≠ 0) : (pnW w h n D = fun _ => 0) ∧ (pnH w h n D = fun _ => 0) ∧ (pnV w h n D = fun _ => []) := by
  unfold pnE at e
  unfold pnW pnH pnV
  cases hs : (sideB w && sideB h)
  · simp
  · rw [hs, if_neg (by simp)] at e
    simp only [Bool.true_eq_false, if_false]
    refine ⟨funext fun i => ?_, funext fun i => ?_, funext fun i => ?_⟩
    · unfold ovW; rw [if_neg e]
    · unfold ovH; rw [if_neg e]
    · unfold ovV; rw [if_neg e]
theorem pn_good {w h : Int} {n : Nat} {D : List Dr} (hn : (sideB w && sideB h) = true → (n : Int) = w * h) (e : pnE w h n D = 0) :
    (1 ≤ w ∧ w ≤ 256) ∧ (1 ≤ h ∧ h ≤ 256) ∧ (n : Int) = w * h ∧ (∀ x ∈ D, x.err = 0) ∧ (pnW w h n D = fun _ => w) ∧ (pnH w h n D = fun _ => h) ∧ (∀ i, i < 4 → (pnV w h n D i).length = n) ∧
      ∀ i, i < 4 → ∀ j (hj : j < n) (hj' : j < (pnV w h n D i).length), (pnV w h n D i)[j] = inkR D (((j % w.toNat : Nat) : Int), ((j / w.toNat : Nat) : Int)) (fun _ => 0) i := by
  unfold pnE at e
  unfold pnW pnH pnV
  cases hs : (sideB w && sideB h)
  · rw [hs, if_pos rfl] at e; omega
  · have hn' := hn hs
    rw [hs, if_neg (by simp)] at e
    simp only [Bool.true_eq_false, if_false]
    rw [Bool.and_eq_true, sideB_iff, sideB_iff] at hs
    obtain ⟨g1, g2, g3⟩ := ov_zero e
    have hD : ∀ x ∈ D, x.err = 0 := fun x hx => by
      obtain ⟨m, hm, rfl⟩ := List.getElem_of_mem hx
      exact firstE_ok g3 m hm
    have eV : ∀ i, ovV (fun _ => w) (fun _ => h) (blk n) D i = (List.range n).map (drwL w.toNat h D (pic (blk n)) i) := fun i => by
      unfold ovV; rw [if_pos e]; simp [blk]
    refine ⟨hs.1, hs.2, hn', hD, funext fun i => ?_, funext fun i => ?_, fun i hi => ?_, fun i hi j hj hj' => ?_⟩
    · unfold ovW; rw [if_pos e]
    · unfold ovH; rw [if_pos e]
    · rw [eV]; simp
    · have hx : (ovV (fun _ => w) (fun _ => h) (blk n) D i)[j] = drwL w.toNat h D (pic (blk n)) i j := by
        simp only [eV, List.getElem_map, List.getElem_range]
      rw [hx, drwL_at w.toNat h hD _ _ _ (by omega) (by
        have : ((w.toNat : Nat) : Int) = w := by omega
        rw [this, ← hn']; omega)]
      have hz : pic (blk n) i j = 0 := by unfold pic blk; simp [hj]
      unfold inkR
      simp only [hz]
end Go.Proofs.Ytjclioakdmilmaa.Ink
end
section
namespace Go.Proofs.Ytjclioakdmilmaa
open Go.RowKit
open Num Ink
set_option linter.unusedVariables false
set_option maxRecDepth 100000 in
set_option maxHeartbeats 8000000 in
theorem rCovers_any (k x0 y0 x1 y1 : Int) (l : List (Int × Int)) (p : Option Addr) (cap : Nat) (a b c d cx cy : Int) (w : World) (hl : l.length ≤ 4096) (hp : Pts w w.heap.size p l) :
    Calls Try.prog 23 #[dw k x0 y0 x1 y1 (.slice p l.length cap) a b c d, .agg #[.int .i64 cx, .int .i64 cy]] w fun e w' => e = .returned (.bool (covB k x0 y0 x1 y1 l (cx, cy))) ∧ Below w.heap.size w w' := by
  have b1 := below_al w (.cells #[.int .i64 k, .int .i64 x0, .int .i64 y0, .int .i64 x1, .int .i64 y1, .slice p l.length cap, .int .i64 a, .int .i64 b, .int .i64 c, .int .i64 d] 27)
  have k1 := Dw.new w k x0 y0 x1 y1 (.slice p l.length cap) a b c d 27
  have HH := Lib.hid (fun (n : Nat) hk hn h => cov_hit (k := k) (x0 := x0) (y0 := y0) (x1 := x1) (y1 := y1) (l := l) (p := (cx, cy)) hk (n := n) hn h)
  have HM := Lib.hid (fun hk h => cov_miss (k := k) (x0 := x0) (y0 := y0) (x1 := x1) (y1 := y1) (l := l) (p := (cx, cy)) hk h)
  have HB := Lib.hid (fun hk => cov_box (k := k) (x0 := x0) (y0 := y0) (x1 := x1) (y1 := y1) (l := l) (p := (cx, cy)) hk)
  generalize covB k x0 y0 x1 y1 l (cx, cy) = R at *
  unfold dw at *
  have s1 : (w.alloc (.cells #[.int .i64 k, .int .i64 x0, .int .i64 y0, .int .i64 x1, .int .i64 y1, .slice p l.length cap, .int .i64 a, .int .i64 b, .int .i64 c, .int .i64 d] 27)).heap.size = w.heap.size + 1 := by simp
  go_enter Try.func23, Try.ntmps23
  go_upto_region 1 with fail
  generalize w.alloc (.cells #[.int .i64 k, .int .i64 x0, .int .i64 y0, .int .i64 x1, .int .i64 y1, .slice p l.length cap, .int .i64 a, .int .i64 b, .int .i64 c, .int .i64 d] 27) = v1 at *
  have b2 := below_al v1 (.cells #[.int .i64 cx, .int .i64 cy] 29)
  have k2 := Bx.new v1 cx cy 29
  rw [s1] at k2
  have D0 := Lib.hid (k1.later b2)
  have K2 := Lib.hid k2
  have G := Lib.hid (below_on b1 b2)
  have HP := Lib.hid (Pts.later (Pts.later hp b1) b2)
  clear b1 b2 k1 k2 s1 hp
  generalize v1.alloc (.cells #[.int .i64 cx, .int .i64 cy] 29) = u0 at *
  generalize hsz : w.heap.size = sz at *
  have HSZ := Lib.hid hsz
  clear hsz
  obtain ⟨h0, h1, h2, h3, h4, h5, -⟩ := D0.out
  obtain ⟨c0, c1, -⟩ := K2.out
  by_cases hk : k = 2
  case neg =>
    have d0 : decide (k = 2) = false := by simpa using hk
    have HR := Lib.hid (HB.out hk)
    clear HB HH HM
    by_cases e1 : x0 ≤ cx
    · have d1 : decide (x0 ≤ cx) = true := by simpa using e1
      by_cases e2 : cx ≤ x1
      · have d2 : decide (cx ≤ x1) = true := by simpa using e2
        by_cases e3 : y0 ≤ cy
        · have d3 : decide (y0 ≤ cy) = true := by simpa using e3
          have HR2 : Hid (R = decide (cy ≤ y1)) := Lib.hid (by rw [HR.out]; simp [e1, e2, e3])
          clear e1 e2 e3 HR
          go_wp2_with fail
          go_ret
          exact ⟨by rw [HR2.out]; rfl, by rw [HSZ.out]; exact G.out⟩
        · have d3 : decide (y0 ≤ cy) = false := by simpa using e3
          have HR2 : Hid (R = false) := Lib.hid (by rw [HR.out]; simp [e3])
          clear e1 e2 e3 HR
          go_wp2_with fail
          go_ret
          exact ⟨by rw [HR2.out]; rfl, by rw [HSZ.out]; exact G.out⟩
      · have d2 : decide (cx ≤ x1) = false := by simpa using e2
        have HR2 : Hid (R = false) := Lib.hid (by rw [HR.out]; simp [e2])
        clear e1 e2 HR
        go_wp2_with fail
        go_ret
        exact ⟨by rw [HR2.out]; rfl, by rw [HSZ.out]; exact G.out⟩
    · have d1 : decide (x0 ≤ cx) = false := by simpa using e1
      have HR2 : Hid (R = false) := Lib.hid (by rw [HR.out]; simp [e1])
      clear e1 HR
      go_wp2_with fail
      go_ret
      exact ⟨by rw [HR2.out]; rfl, by rw [HSZ.out]; exact G.out⟩
  have HH2 := Lib.hid (fun n hn h => HH.out n hk hn h)
  have HM2 := Lib.hid (fun h => HM.out hk h)
  clear HH HM HB
  obtain rfl := hk
  go_wp2_with fail
  clear h0 h1 h2 h3 h4 h5 c0 c1
  go_loopw [5] (fun i wr => ∃ n : Nat, n ≤ l.length ∧ i = .int .i64 n ∧ Hid (Below u0.heap.size u0 wr) ∧ Hid (¬ hit l n (cx, cy))) (fun i _ => l.length - (intOf i).toNat)
  case atStart => exact ⟨0, by omega, rfl, Lib.hid (Below.refl _ _), Lib.hid (hit_zero _ _)⟩
  case round =>
    obtain ⟨n, hn, rfl, HW, HN⟩ := hrel
    have D1 := Lib.hid (D0.out.later HW.out)
    have K1 := Lib.hid (K2.out.later HW.out)
    obtain ⟨h0, h1, h2, h3, h4, h5, -⟩ := D1.out
    by_cases hlt : n < l.length
    · obtain ⟨pb, off, rfl, -, hc⟩ := (HP.out.later HW.out) (by omega)
      have hlt' : n - 1 < l.length := by omega
      have y0' : wr.cell? ⟨pb, off + (n - 1) * 2, none⟩ = some (.int .i64 l[n - 1].1) := (hc (n - 1) hlt').1
      have y1' : wr.cell? ⟨pb, off + (n - 1) * 2 + 1, none⟩ = some (.int .i64 l[n - 1].2) := (hc (n - 1) hlt').2
      have y2' : wr.cell? ⟨pb, off + n * 2, none⟩ = some (.int .i64 l[n].1) := (hc n hlt).1
      have y3' : wr.cell? ⟨pb, off + n * 2 + 1, none⟩ = some (.int .i64 l[n].2) := (hc n hlt).2
      have HC := Lib.hid (segC_at l n hlt hlt')
      clear hc
      generalize l[n - 1].1 = X1 at *
      generalize l[n - 1].2 = Y1 at *
      generalize l[n].1 = X2 at *
      generalize l[n].2 = Y2 at *
      have f1 : wrap64 ((n : Int) - 1) = (n : Int) - 1 := w64i _ (by omega) (by omega)
      have f2 : max ((n : Int) - 1) 0 = ((n - 1 : Nat) : Int) := by omega
      have MX := fun v => run_max ((n : Int) - 1) 0 v
      simp only [f2] at MX
      have q1 : (0 : Int) ≤ ((n - 1 : Nat) : Int) := by omega
      have q2 : ((n - 1 : Nat) : Int) < (l.length : Int) := by omega
      have q3 : (0 : Int) ≤ (n : Int) := by omega
      have q4 : (n : Int) < (l.length : Int) := by omega
      go_upto_region 6 with fail
      refine region_freeL (P := Try.prog) [] 12 12 73 29 (.cells #[.int .i64 0, .int .i64 0] 29) (by kernel_rfl) (by decide) (by kernel_rfl) (fun _ _ _ _ _ h => h) ?_ (by kernel_rfl) (by kernel_rfl) alloc_pt ?_
      · rfl
      apply Exists.intro
      refine ⟨?hqt, ?hft⟩
      case hqt =>
        intro X' hne
        haveI := hne
        simp only [List.take_succ_cons, List.take_zero]
        have L0 := fun m' : LaterX wr X' => m'.cell h5
        have L1 := fun m' : LaterX wr X' => m'.cell y0'
        have L2 := fun m' : LaterX wr X' => m'.cell y1'
        have L3 := fun m' : LaterX wr X' => m'.cell y2'
        have L4 := fun m' : LaterX wr X' => m'.cell y3'
        iterate 12 (go_big_quiet_want; go_big_quiet_op; go_big_quiet_on)
        exact wpQuiet_nil rfl
      intro G0 w8 hb _ _
      simp only [List.take_succ_cons, List.take_zero, List.drop_succ_cons, List.drop_zero, ptrs, putsL]
      have HW8 := Lib.hid (below_on HW.out hb)
      have K8 := Lib.hid (K1.out.later hb)
      clear hb h0 h1 h2 h3 h4 h5 y0' y1' y2' y3' MX f1 f2 q1 q2 D1 K1 HW
      have CC := Lib.hid (fun v => rCells_any X1 Y1 X2 Y2 v)
      go_wp2_with fail
      refine (CC.out _).mono ?_
      rintro e w9 ⟨a9, cap9, rfl, hpt9, hb9⟩
      have HW9 := Lib.hid (below_on HW8.out hb9)
      have K9 := Lib.hid (K8.out.later hb9)
      have HPT9 := Lib.hid hpt9.1
      have HCL : (cels X1 Y1 X2 Y2).length ≤ 16384 := cels_le _ _ _ _
      have HSC : Hid (segC l n = cels X1 Y1 X2 Y2) := HC
      clear hb9 hpt9 CC K8 HW8 HC
      generalize cels X1 Y1 X2 Y2 = C at *
      go_wp2_with fail
      go_loopw [7] (fun i wr => ∃ m : Nat, m ≤ C.length ∧ i = .int .i64 m ∧ Hid (Below w9.heap.size w9 wr) ∧ Hid ((cx, cy) ∉ C.take m)) (fun i _ => C.length - (intOf i).toNat)
      case atStart => exact ⟨0, by omega, rfl, Lib.hid (Below.refl _ _), Lib.hid (by simp)⟩
      case round =>
        obtain ⟨m, hm, rfl, HV, HZ⟩ := hrel
        by_cases hmt : m < C.length
        · obtain ⟨b9, o9, rfl, -, hc9⟩ := (HPT9.out.later HV.out) (by omega)
          have t1 : wr.cell? ⟨b9, o9 + m * 2, none⟩ = some (.int .i64 C[m].1) := (hc9 m hmt).1
          have t2 : wr.cell? ⟨b9, o9 + m * 2 + 1, none⟩ = some (.int .i64 C[m].2) := (hc9 m hmt).2
          have K10 := Lib.hid (K9.out.later HV.out)
          obtain ⟨c0, c1, -⟩ := K10.out
          have q6 : (0 : Int) ≤ (m : Int) := by omega
          have q7 : (m : Int) < (C.length : Int) := by omega
          have HT := Lib.hid (List.take_succ_eq_append_getElem hmt)
          have HG : Hid (C[m] ∈ C) := Lib.hid (List.getElem_mem hmt)
          have HE : Hid (C[m] = (C[m].1, C[m].2)) := Lib.hid rfl
          generalize C[m] = pp at *
          generalize pp.1 = X at *
          generalize pp.2 = Y at *
          clear hc9
          have HW10 := Lib.hid (below_on HW9.out HV.out)
          go_wp2_with fail
          have L1 := fun m : Later wr => m.cell t1
          have L2 := fun m : Later wr => m.cell t2
          have L3 := fun m : Later wr => m.cell c0
          have L4 := fun m : Later wr => m.cell c1
          by_cases hX : X = cx ∧ Y = cy
          · have HT2 : Hid (R = true) := Lib.hid (HH2.out (n + 1) hlt (hit_succ.2 (.inr (by rw [HSC.out]; have h := HG.out; rw [HE.out, hX.1, hX.2] at h; exact h))))
            obtain ⟨rfl, rfl⟩ := hX
            clear HE HG HT HSC
            refine region_later (by kernel_rfl) (by kernel_rfl) ?_
            iterate 6 (go_big_quiet_want; go_big_quiet_op; go_big_quiet_on)
            refine wpQuiet_nil ?_
            refine later_end ?_
            intro mm
            have HW11 := Lib.hid (G.out.trans ((below_on HW10.out mm.below).mono (by have := G.out.size; have := HSZ.out; omega)))
            clear L1 L2 L3 L4 t1 t2 c0 c1
            go_wp2
            go_ret
            exact ⟨by rw [HT2.out]; rfl, by rw [HSZ.out]; exact HW11.out⟩
          · have HZ2 : Hid ((cx, cy) ∉ C.take (m + 1)) := Lib.hid (by
              rw [HT.out, HE.out, List.mem_append, List.mem_singleton]
              rintro (h | h)
              · exact HZ.out h
              · injection h with h1 h2
                exact hX ⟨h1.symm, h2.symm⟩)
            clear HE HG HT
            refine region_later (by kernel_rfl) (by kernel_rfl) ?_
            iterate 5 (go_big_quiet_want; go_big_quiet_op; go_big_quiet_on)
            go_big_quiet_want
            go_big_quiet_op
            refine ⟨.bool false, fun a => by rw [if2 hX]; exact ⟨rfl, rfl⟩, ?_⟩
            go_big_quiet_on
            refine wpQuiet_nil ?_
            refine later_end ?_
            intro mm
            have HV2 := Lib.hid (below_on HV.out mm.below)
            clear L1 L2 L3 L4 t1 t2 c0 c1
            go_wp2
            go_roundw
            case rel => exact ⟨m + 1, by omega, by go_num, HV2, HZ2⟩
            case measure => simp [intOf] <;> omega
        · have hme : m = C.length := by omega
          have HN2 : Hid (¬ hit l (n + 1) (cx, cy)) := Lib.hid (by
            rw [hit_succ, HSC.out]
            rintro (h | h)
            · exact HN.out h
            · have h2 := HZ.out; rw [hme, List.take_length] at h2; exact h2 h)
          have HW12 := Lib.hid (below_on HW9.out HV.out)
          clear HZ HN HSC hme
          go_wp2
          go_roundw
          case rel => exact ⟨n + 1, by omega, by go_num, HW12, HN2⟩
          case measure => simp [intOf] <;> omega
    · have hne : n = l.length := by omega
      have HR2 : Hid (R = false) := Lib.hid (HM2.out (by rw [← hne]; exact HN.out))
      have G1 := Lib.hid (G.out.trans (HW.out.mono (by have := G.out.size; have := HSZ.out; omega)))
      go_wp2
      go_ret
      exact ⟨by rw [HR2.out]; rfl, by rw [HSZ.out]; exact G1.out⟩
end Go.Proofs.Ytjclioakdmilmaa
end
section
namespace Go.Proofs.Ytjclioakdmilmaa
open Go.RowKit
open Num Ink
set_option linter.unusedVariables false
set_option maxRecDepth 100000 in
set_option maxHeartbeats 4000000 in
theorem tight_any (D : List Dr) (da : Option Addr) (dc : Nat) (w : World) (hD : Drs w w.heap.size da D) (hm : D.length ≤ 30) (hl : ∀ k (hk : k < D.length), D[k].l.length ≤ 40) :
    Calls Try.prog 16 #[.slice da D.length dc] w fun e u => (∃ bb, e = .returned (.bool bb)) ∧ Below w.heap.size w u := by
  have HD := Lib.hid hD
  have HL := Lib.hid hl
  clear hD hl
  go_enter Try.func16, Try.ntmps16
  go_wp2_with fail
  go_loopw [3] (fun i wr => ∃ k : Nat, k ≤ D.length ∧ i = .int .i64 k ∧ Hid (Below w.heap.size w wr)) (fun i _ => D.length - (intOf i).toNat)
  case atStart => exact ⟨0, by omega, rfl, Lib.hid (Below.refl _ _)⟩
  case round =>
    obtain ⟨k, hk, rfl, HW⟩ := hrel
    by_cases hlt : k < D.length
    · have d1 : decide (k < D.length) = true := by simpa using hlt
      have q1 : (0 : Int) ≤ (k : Int) := by omega
      have q2 : (k : Int) < (D.length : Int) := by omega
      obtain ⟨b, off, rfl, hbw, hc⟩ := HD.out (by omega)
      obtain ⟨pa, pc, ⟨-, -, -, -, -, c5', -⟩, hpt'⟩ := hc k hlt
      have hml := HL.out k hlt
      have C5 := Lib.hid c5'
      have HPT := Lib.hid hpt'
      have BW := Lib.hid hbw
      clear hc c5' hpt' hbw
      generalize D[k].l = l at *
      go_upto_region 4 with fail
      go_wp2_with fail
      go_loopw [4] (fun i wq => ∃ j : Nat, j ≤ l.length ∧ i = .int .i64 j ∧ Hid (Below w.heap.size w wq)) (fun i _ => l.length - (intOf i).toNat)
      case atStart => exact ⟨0, by omega, rfl, HW⟩
      case round =>
        obtain ⟨j, hj, rfl, HV⟩ := hrel
        have c5 := (HV.out.cell (p := ⟨b, off + k * 10 + 5, none⟩) BW.out).trans C5.out
        by_cases hjt : j < l.length
        · obtain ⟨pb, o2, rfl, -, hc2⟩ := (HPT.out.old HV.out) (by omega)
          have t1 : wr.cell? ⟨pb, o2 + j * 2, none⟩ = some (.int .i64 l[j].1) := (hc2 j hjt).1
          have t2 : wr.cell? ⟨pb, o2 + j * 2 + 1, none⟩ = some (.int .i64 l[j].2) := (hc2 j hjt).2
          have q3 : (0 : Int) ≤ (j : Int) := by omega
          have q4 : (j : Int) < (l.length : Int) := by omega
          clear hc2
          generalize l[j].1 = X at *
          generalize l[j].2 = Y at *
          go_upto_region 8 with fail
          have kb := Bx.new wr X Y 29
          have bb := below_al wr (.cells #[.int .i64 X, .int .i64 Y] 29)
          have HV2 := Lib.hid (below_on HV.out bb)
          have KB := Lib.hid kb
          clear t1 t2 c5 HV kb bb
          generalize wr.alloc (.cells #[.int .i64 X, .int .i64 Y] 29) = w8 at *
          obtain ⟨c0, c1, -⟩ := KB.out
          by_cases e1 : X < -100
          · have g1 : decide (X < -100) = true := by simpa using e1
            clear e1
            go_wp2_with fail
            go_ret
            exact ⟨⟨_, rfl⟩, HV2.out⟩
          have g1 : decide (X < -100) = false := by simpa using e1
          by_cases e2 : 100 < X
          · have g2 : decide (100 < X) = true := by simpa using e2
            clear e1 e2
            go_wp2_with fail
            go_ret
            exact ⟨⟨_, rfl⟩, HV2.out⟩
          have g2 : decide (100 < X) = false := by simpa using e2
          by_cases e3 : Y < -100
          · have g3 : decide (Y < -100) = true := by simpa using e3
            clear e1 e2 e3
            go_wp2_with fail
            go_ret
            exact ⟨⟨_, rfl⟩, HV2.out⟩
          have g3 : decide (Y < -100) = false := by simpa using e3
          by_cases e4 : 100 < Y
          · have g4 : decide (100 < Y) = true := by simpa using e4
            clear e1 e2 e3 e4
            go_wp2_with fail
            go_ret
            exact ⟨⟨_, rfl⟩, HV2.out⟩
          have g4 : decide (100 < Y) = false := by simpa using e4
          clear e1 e2 e3 e4
          go_wp2_with fail
          go_roundw
          case rel => exact ⟨j + 1, by omega, by go_num, HV2⟩
          case measure => simp [intOf] <;> omega
        · go_wp2
          go_roundw
          case rel => exact ⟨k + 1, by omega, by go_num, HV⟩
          case measure => simp [intOf] <;> omega
    · have d1 : decide (k < D.length) = false := by simpa using hlt
      go_wp2
      go_ret
      exact ⟨⟨_, rfl⟩, HW.out⟩
end Go.Proofs.Ytjclioakdmilmaa
end
section
namespace Go.Proofs.Ytjclioakdmilmaa
open Go.RowKit
open Num Ink
set_option linter.unusedVariables false
def Q4 (v : World) (b : Nat) (z : Nat → Int) : Prop := v.cell? ⟨b, 0, none⟩ = some (.int .i64 (z 0)) ∧ v.cell? ⟨b, 1, none⟩ = some (.int .i64 (z 1)) ∧ v.cell? ⟨b, 2, none⟩ = some (.int .i64 (z 2)) ∧ v.cell? ⟨b, 3, none⟩ = some (.int .i64 (z 3)) ∧ ∀ o, v.frozen? ⟨b, o, none⟩ = false
theorem Q4.later {v u : World} {b : Nat} {z : Nat → Int} (h : Q4 v b z) (hb : Below v.heap.size v u) : Q4 u b z :=
  ⟨cell_on h.1 hb, cell_on h.2.1 hb, cell_on h.2.2.1 hb, cell_on h.2.2.2.1 hb, fun o => (hb.frozen (p := ⟨b, o, none⟩) (cell_lt h.1)).trans (h.2.2.2.2 o)⟩
theorem Q4.new (u : World) (t : TypeId) : Q4 (u.alloc (.cells #[.int .i64 0, .int .i64 0, .int .i64 0, .int .i64 0] t)) u.heap.size (fun _ => 0) :=
  ⟨by simp, by simp, by simp, by simp, fun o => by simp⟩
theorem Q4.set {v : World} {b : Nat} {z : Nat → Int} (h : Q4 v b z) (y0 y1 y2 y3 : Int) (y : Nat → Int) (e0 : y0 = y 0) (e1 : y1 = y 1) (e2 : y2 = y 2) (e3 : y3 = y 3) :
    Q4 ((((v.setCell ⟨b, 0, none⟩ (.int .i64 y0)).setCell ⟨b, 1, none⟩ (.int .i64 y1)).setCell ⟨b, 2, none⟩ (.int .i64 y2)).setCell ⟨b, 3, none⟩ (.int .i64 y3)) b y := by
  subst e0 e1 e2 e3
  have o : ∀ (x : World) (i j : Nat) (z : Value), i ≠ j → (x.setCell ⟨b, i, none⟩ z).cell? ⟨b, j, none⟩ = x.cell? ⟨b, j, none⟩ := fun x i j z hij => World.cell?_setCell_other _ _ _ _ (by simp <;> exact hij)
  refine ⟨?_, ?_, ?_, ?_, fun o => by simp [h.2.2.2.2 o]⟩
  · rw [o _ 3 0 _ (by decide), o _ 2 0 _ (by decide), o _ 1 0 _ (by decide)]; exact World.cell?_setCell_same _ _ _ h.1
  · rw [o _ 3 1 _ (by decide), o _ 2 1 _ (by decide)]; exact World.cell?_setCell_same _ _ _ (by rw [o _ 0 1 _ (by decide)]; exact h.2.1)
  · rw [o _ 3 2 _ (by decide)]; exact World.cell?_setCell_same _ _ _ (by rw [o _ 1 2 _ (by decide), o _ 0 2 _ (by decide)]; exact h.2.2.1)
  · exact World.cell?_setCell_same _ _ _ (by rw [o _ 2 3 _ (by decide), o _ 1 3 _ (by decide), o _ 0 3 _ (by decide)]; exact h.2.2.2.1)
theorem below_set4 {B : Nat} {w v : World} {b : Nat} (h : Below B w v) (hb : B ≤ b) (y0 y1 y2 y3 : Value) :
    Below B w ((((v.setCell ⟨b, 0, none⟩ y0).setCell ⟨b, 1, none⟩ y1).setCell ⟨b, 2, none⟩ y2).setCell ⟨b, 3, none⟩ y3) :=
  (((h.setCell (p := ⟨b, 0, none⟩) hb _).setCell (p := ⟨b, 1, none⟩) hb _).setCell (p := ⟨b, 2, none⟩) hb _).setCell (p := ⟨b, 3, none⟩) hb _
theorem eq25s (a b c d : Int) (w : World) : (Op.equalIn 10000 25 (.agg #[.int .i64 a, .int .i64 b, .int .i64 c, .int .i64 d]) (.agg #[.int .i64 a, .int .i64 b, .int .i64 c, .int .i64 d])).run Try.prog w = .ok true w := by
  rw [eq25]; simp
end Go.Proofs.Ytjclioakdmilmaa
end
section
namespace Go.Proofs.Ytjclioakdmilmaa
open Go.RowKit
open Num Ink
set_option linter.unusedVariables false
set_option maxRecDepth 100000 in
set_option maxHeartbeats 16000000 in
theorem inklast_law (w h : Int) (D : List Dr) (da : Option Addr) (dac : Nat) (W : World)
    (hDa : Drs W W.heap.size da D) (hma : D.length ≤ maxLen) (hka : ∀ q ∈ D, q.l.length ≤ maxLen ∧ (-9223372036854775808 ≤ q.k ∧ q.k ≤ 9223372036854775807)) :
    Calls Try.prog 6 #[.int .i64 w, .int .i64 h, .slice da D.length dac] W fun e u => e = .returned (.bool true) ∧ Below W.heap.size W u := by
  have HA := Lib.hid hDa
  have FA := Lib.hid (fun v hv => few_any D da dac v (hDa.old hv |>.le hv.size) hma (fun k hk => (hka _ (List.getElem_mem hk)).1))
  have IA := Lib.hid (fewB_iff (D := D))
  clear hDa hma hka
  go_enter Try.func6, Try.ntmps6
  go_upto_region 1 with fail
  by_cases hw : 20 < w
  · have d1 : decide (20 < w) = true := by simpa using hw
    clear hw FA
    go_wp2_with fail
    refine (awake53 _).mono ?_
    rintro e u ⟨rfl, hb⟩
    have G := Lib.hid hb
    clear hb
    go_wp2
    go_ret
    exact ⟨rfl, G.out⟩
  have d1 : decide (20 < w) = false := by simpa using hw
  by_cases hh : 20 < h
  · have d2 : decide (20 < h) = true := by simpa using hh
    clear hw hh FA
    go_wp2_with fail
    refine (awake53 _).mono ?_
    rintro e u ⟨rfl, hb⟩
    have G := Lib.hid hb
    clear hb
    go_wp2
    go_ret
    exact ⟨rfl, G.out⟩
  have d2 : decide (20 < h) = false := by simpa using hh
  go_wp2_with fail
  refine (FA.out _ (Below.refl _ _)).mono ?_
  rintro e v1 ⟨rfl, hb⟩
  have G1 := Lib.hid hb
  clear hb FA
  cases fa : fewB D
  · go_wp2_with fail
    refine (awake53 _).mono ?_
    rintro e u ⟨rfl, hb⟩
    have G := Lib.hid (below_on G1.out hb)
    clear hb
    go_wp2
    go_ret
    exact ⟨rfl, G.out⟩
  have lA := (IA.out.1 fa).1
  have LA := Lib.hid (IA.out.1 fa).2
  clear IA fa
  have HA1 := Lib.hid ((HA.out.old G1.out).le G1.out.size)
  have TA := Lib.hid (tight_any D da dac v1 HA1.out lA LA.out)
  clear HA
  go_wp2_with fail
  refine TA.out.mono ?_
  rintro e v2 ⟨⟨bb, rfl⟩, hb⟩
  have G2 := Lib.hid (below_on G1.out hb)
  have HA2 := Lib.hid ((HA1.out.old hb).le hb.size)
  clear hb TA G1 HA1
  cases bb
  · go_wp2_with fail
    refine (awake53 _).mono ?_
    rintro e u ⟨rfl, hb⟩
    have G := Lib.hid (below_on G2.out hb)
    clear hb
    go_wp2
    go_ret
    exact ⟨rfl, G.out⟩
  clear d1 d2 hw hh
  obtain ⟨n, hn⟩ : ∃ n : Nat, (sideB w && sideB h) = true → (n : Int) = w * h := ⟨(w * h).toNat, fun hs => by
    rw [Bool.and_eq_true, sideB_iff, sideB_iff] at hs
    have : 0 ≤ w * h := Int.mul_nonneg (by omega) (by omega)
    omega⟩
  have PT1 := Lib.hid (Paint_any w h n D da dac v2 hn HA2.out (by omega))
  have PB := Lib.hid (fun e => pn_bad (w := w) (h := h) (n := n) (D := D) e)
  have PG := Lib.hid (fun e => pn_good (w := w) (h := h) (n := n) (D := D) hn e)
  clear hn
  generalize pnE w h n D = E at *
  generalize pnW w h n D = xW at *
  generalize pnH w h n D = xH at *
  generalize pnV w h n D = xV at *
  go_upto_region 3 with fail
  go_wp2_with fail
  refine PT1.out.mono ?_
  rintro e v3 ⟨xad, xcp, rfl, hN, -, hb⟩
  simp only [pl4]
  have XN := Lib.hid hN
  have HA3 := Lib.hid ((HA2.out.old hb).le hb.size)
  have G3 := Lib.hid (below_on G2.out hb)
  clear hN hb PT1 HA2 G2
  go_upto_region 4 with fail
  have b6 := below_al v3 (.cells #[.int .i64 (xW 0), .int .i64 (xH 0), .slice (xad 0) (xV 0).length (xcp 0), .int .i64 (xW 1), .int .i64 (xH 1), .slice (xad 1) (xV 1).length (xcp 1), .int .i64 (xW 2), .int .i64 (xH 2), .slice (xad 2) (xV 2).length (xcp 2), .int .i64 (xW 3), .int .i64 (xH 3), .slice (xad 3) (xV 3).length (xcp 3)] 41)
  have XP := Lib.hid (P12.new v3 xW xH xad xcp xV 41)
  have XN6 := Lib.hid (XN.out.later b6)
  have HA6 := Lib.hid ((HA3.out.old b6).le b6.size)
  have G6 := Lib.hid (below_on G3.out b6)
  clear b6 XN HA3 G3
  generalize v3.alloc (.cells #[.int .i64 (xW 0), .int .i64 (xH 0), .slice (xad 0) (xV 0).length (xcp 0), .int .i64 (xW 1), .int .i64 (xH 1), .slice (xad 1) (xV 1).length (xcp 1), .int .i64 (xW 2), .int .i64 (xH 2), .slice (xad 2) (xV 2).length (xcp 2), .int .i64 (xW 3), .int .i64 (xH 3), .slice (xad 3) (xV 3).length (xcp 3)] 41) = v6 at *
  generalize v3.heap.size = xb at *
  by_cases e0 : E = 0
  case neg =>
    obtain ⟨p1, p2, p3⟩ := PB.out e0
    have d1 : (E == 0) = false := by simpa using e0
    have d2 : (E != 0) = true := by simpa using e0
    have SM := Lib.hid (same4_true xW xH xV xad (fun _ => none) xcp (fun _ => 0) v6 XN6.out (fun i hi hn => by rw [p3] at hn; exact absurd hn (by simp)) (fun i hi => by rw [p3]; simp))
    subst p1 p2 p3
    clear PG PB e0
    unfold pl4 at SM
    obtain ⟨h0, h1, h2, h3, h4, h5, h6, h7, h8, h9, h10, h11⟩ := XP.out
    go_wp2_with fail
    refine SM.out.mono ?_
    rintro e v7 ⟨rfl, hb⟩
    have G7 := Lib.hid (below_on G6.out hb)
    clear hb h0 h1 h2 h3 h4 h5 h6 h7 h8 h9 h10 h11
    go_wp2_with fail
    refine (awake53 _).mono ?_
    rintro e u ⟨rfl, hb⟩
    have G := Lib.hid (below_on G7.out hb)
    clear hb
    go_wp2
    go_ret
    exact ⟨rfl, G.out⟩
  obtain ⟨w1, w2, nn, -, gW, gH, gV, gC⟩ := PG.out e0
  subst e0 gW gH
  have GV := Lib.hid gV
  have GC := Lib.hid gC
  clear gV gC PG PB
  obtain ⟨Wn, rfl⟩ : ∃ Wn : Nat, w = (Wn : Int) := ⟨w.toNat, by omega⟩
  simp only [Int.toNat_natCast] at GC
  have n64 : n ≤ 65536 := n_le nn ⟨by omega, w1.2⟩ ⟨by omega, w2.2⟩
  have m1 : wrap64 ((Wn : Int) * h) = (n : Int) := by rw [← nn]; exact w64i _ (by omega) (by omega)
  clear nn
  go_upto_region 6 with fail
  go_wp2_with fail
  go_loopw [9] (fun i wr => ∃ k : Nat, k ≤ 4 ∧ i = .int .i64 k ∧ v6 = wr) (fun i _ => 4 - (intOf i).toNat)
  case atStart => exact ⟨0, by omega, rfl, rfl⟩
  case round =>
    obtain ⟨k, hk, rfl, rfl⟩ := hrel
    by_cases hlt : k < 4
    · obtain ⟨c0, c1, c2⟩ := p12_at XP.out hlt
      rw [GV.out k hlt] at c2
      have q1 : (0 : Int) ≤ (k : Int) := by omega
      have q2 : (k : Int) < 4 := by omega
      go_wp2
      go_roundw
      case rel => exact ⟨k + 1, by omega, by go_num, trivial⟩
      case measure => simp [intOf] <;> omega
    · go_upto_region 11 with fail
      go_wp2_with fail
      go_loopw [10] (fun i wr => ∃ k : Nat, k ≤ n ∧ i = .int .i64 k ∧ Hid (Below v6.heap.size v6 wr)) (fun i _ => n - (intOf i).toNat)
      case atStart => exact ⟨0, by omega, rfl, Lib.hid (Below.refl _ _)⟩
      case round =>
        obtain ⟨j, hj, rfl, HW⟩ := hrel
        by_cases hjt : j < n
        · have hjw := Nat.div_le_self j Wn
          have GJ := Lib.hid (fun i hi hj' => GC.out i hi j hjt hj')
          have r1 : (j : Int) % (Wn : Int) = ((j % Wn : Nat) : Int) := rfl
          have r0 : ∀ q : Nat, q ≤ j → wrap64 (q : Int) = (q : Int) := fun q hq => w64i _ (by omega) (by omega)
          have r2 : wrap64 ((j : Int) / (Wn : Int)) = ((j / Wn : Nat) : Int) := r0 _ hjw
          clear hjw r0
          generalize ((j % Wn : Nat) : Int) = cx at *
          generalize ((j / Wn : Nat) : Int) = cy at *
          have kb := Q4.new wr 25
          have bb := below_al wr (.cells #[.int .i64 0, .int .i64 0, .int .i64 0, .int .i64 0] 25)
          have HW8 := Lib.hid (below_on HW.out bb)
          have KB := Lib.hid kb
          have gB : Hid (v6.heap.size ≤ wr.heap.size) := Lib.hid HW.out.size
          clear kb bb HW
          have z0 : inkR (D.take 0) (cx, cy) (fun _ => 0) = (fun _ => 0) := rfl
          have KB0 : Hid (Q4 (wr.alloc (.cells #[.int .i64 0, .int .i64 0, .int .i64 0, .int .i64 0] 25)) wr.heap.size (inkR (D.take 0) (cx, cy) (fun _ => 0))) := Lib.hid (by rw [z0]; exact KB.out)
          clear z0 KB
          go_upto_region 15 with fail
          generalize wr.alloc (.cells #[.int .i64 0, .int .i64 0, .int .i64 0, .int .i64 0] 25) = w8 at *
          generalize wr.heap.size = g at *
          go_wp2_with fail
          go_loopw [12] (fun i wq => ∃ m : Nat, m ≤ D.length ∧ i = .int .i64 m ∧ Hid (Below v6.heap.size v6 wq) ∧ Hid (Q4 wq g (inkR (D.take m) (cx, cy) (fun _ => 0)))) (fun i _ => D.length - (intOf i).toNat)
          case atStart => exact ⟨0, by omega, rfl, HW8, KB0⟩
          case round =>
            obtain ⟨m, hm, rfl, HV, HQ⟩ := hrel
            by_cases hmt : m < D.length
            · obtain ⟨b, off, rfl, -, hc⟩ := ((HA6.out.old HV.out).le HV.out.size) (by omega)
              obtain ⟨pa, pc, hdw, hpt⟩ := hc m hmt
              have HS := Lib.hid (fun i => inkR_step D m hmt (cx, cy) (fun _ => 0) i)
              have hl40 := LA.out m hmt
              clear hc
              generalize D[m] = x at *
              have CV : Hid (∀ nn : Later wr, Calls Try.prog 23 #[dw x.k x.x0 x.y0 x.x1 x.y1 (.slice pa x.l.length pc) x.a x.b x.c x.d, .agg #[.int .i64 cx, .int .i64 cy]] nn.wd fun e w' => e = .returned (.bool (x.cov (cx, cy))) ∧ Below nn.wd.heap.size nn.wd w') := Lib.hid (fun nn => rCovers_any x.k x.x0 x.y0 x.x1 x.y1 x.l pa pc x.a x.b x.c x.d _ _ nn.wd (by omega) (hpt.later nn.below))
              have PT := Lib.hid (fun v => pt_any cx cy v)
              unfold dw at CV
              generalize x.cov (cx, cy) = cb at *
              obtain ⟨t0, t1, t2, t3, t4, t5, t6, t7, t8, t9⟩ := hdw
              have q1 : (0 : Int) ≤ (m : Int) := by omega
              have q2 : (m : Int) < (D.length : Int) := by omega
              have r3 : ¬ (Wn : Int) = 0 := by omega
              go_upto_region 18 with fail
              have L0 := fun mm : Later wr => mm.cell t0
              have L1 := fun mm : Later wr => mm.cell t1
              have L2 := fun mm : Later wr => mm.cell t2
              have L3 := fun mm : Later wr => mm.cell t3
              have L4 := fun mm : Later wr => mm.cell t4
              have L5 := fun mm : Later wr => mm.cell t5
              have L6 := fun mm : Later wr => mm.cell t6
              have L7 := fun mm : Later wr => mm.cell t7
              have L8 := fun mm : Later wr => mm.cell t8
              have L9 := fun mm : Later wr => mm.cell t9
              refine region_later (by kernel_rfl) (by kernel_rfl) ?_
              iterate 10 (go_big_quiet_want; go_big_quiet_op; go_big_quiet_on)
              (go_big_quiet_want; go_big_quiet_op; go_big_quiet_call (exact later_of (PT.out _)))
              go_big_quiet_want
              go_big_quiet_op
              apply Exists.intro
              refine ⟨fun nn => ?_, ?_⟩
              · exact later_of (CV.out nn)
              go_big_quiet_on
              refine wpQuiet_nil ?_
              refine later_end ?_
              intro mm
              have HV2 := Lib.hid (below_on HV.out mm.below)
              have HQ2 := Lib.hid (HQ.out.later mm.below)
              have L6 := L6 mm
              have L7 := L7 mm
              have L8 := L8 mm
              have L9 := L9 mm
              clear L0 L1 L2 L3 L4 L5 t0 t1 t2 t3 t4 t5 t6 t7 t8 t9 PT CV HV HQ r3 hpt
              generalize mm.wd = w12 at *
              clear mm
              cases cb
              · have HQ3 : Hid (Q4 w12 g (inkR (D.take (m + 1)) (cx, cy) (fun _ => 0))) := Lib.hid (by
                  have e : inkR (D.take (m + 1)) (cx, cy) (fun _ => 0) = inkR (D.take m) (cx, cy) (fun _ => 0) := funext fun i => by rw [HS.out i, if_neg (by simp)]
                  rw [e]; exact HQ2.out)
                clear L6 L7 L8 L9 HS HQ2
                go_wp2
                go_roundw
                case rel => exact ⟨m + 1, by omega, by go_num, HV2, HQ3⟩
                case measure => simp [intOf] <;> omega
              · have e : ∀ i, inkR (D.take (m + 1)) (cx, cy) (fun _ => 0) i = x.ink i := fun i => by rw [HS.out i, if_pos rfl]
                have B3 := Lib.hid (below_set4 HV2.out gB.out (.int .i64 x.a) (.int .i64 x.b) (.int .i64 x.c) (.int .i64 x.d))
                have HQ3 := Lib.hid (HQ2.out.set x.a x.b x.c x.d (inkR (D.take (m + 1)) (cx, cy) (fun _ => 0)) (e 0).symm (e 1).symm (e 2).symm (e 3).symm)
                obtain ⟨y0, y1, y2, y3, yf⟩ := HQ2.out
                clear HS HQ2 e HV2
                go_wp2_with fail
                go_roundw
                case rel => exact ⟨m + 1, by omega, by go_num, B3, HQ3⟩
                case measure => simp [intOf] <;> omega
            · have hme : m = D.length := by omega
              have HQ2 : Hid (Q4 wr g (inkR D (cx, cy) (fun _ => 0))) := Lib.hid (by have := HQ.out; rw [hme, List.take_length] at this; exact this)
              have v0 := GJ.out 0 (by omega) (by rw [GV.out 0 (by omega)]; exact hjt)
              have v1 := GJ.out 1 (by omega) (by rw [GV.out 1 (by omega)]; exact hjt)
              have v2 := GJ.out 2 (by omega) (by rw [GV.out 2 (by omega)]; exact hjt)
              have v3 := GJ.out 3 (by omega) (by rw [GV.out 3 (by omega)]; exact hjt)
              have XPn := XP.out.later HV.out
              have XNn := XN6.out.later HV.out
              obtain ⟨b0, o0, f0, -, g0⟩ := XNn 0 (by omega) (by rw [GV.out 0 (by omega)]; omega)
              obtain ⟨b1, o1, f1, -, g1⟩ := XNn 1 (by omega) (by rw [GV.out 1 (by omega)]; omega)
              obtain ⟨b2, o2, f2, -, g2⟩ := XNn 2 (by omega) (by rw [GV.out 2 (by omega)]; omega)
              obtain ⟨b3, o3, f3, -, g3⟩ := XNn 3 (by omega) (by rw [GV.out 3 (by omega)]; omega)
              have u0 : wr.cell? ⟨b0, o0 + j, none⟩ = _ := g0 j (by rw [GV.out 0 (by omega)]; exact hjt)
              have u1 : wr.cell? ⟨b1, o1 + j, none⟩ = _ := g1 j (by rw [GV.out 1 (by omega)]; exact hjt)
              have u2 : wr.cell? ⟨b2, o2 + j, none⟩ = _ := g2 j (by rw [GV.out 2 (by omega)]; exact hjt)
              have u3 : wr.cell? ⟨b3, o3 + j, none⟩ = _ := g3 j (by rw [GV.out 3 (by omega)]; exact hjt)
              rw [v0] at u0
              rw [v1] at u1
              rw [v2] at u2
              rw [v3] at u3
              obtain ⟨-, -, x2, -, -, x5, -, -, x8, -, -, x11⟩ := XPn
              rw [f0, GV.out 0 (by omega)] at x2
              rw [f1, GV.out 1 (by omega)] at x5
              rw [f2, GV.out 2 (by omega)] at x8
              rw [f3, GV.out 3 (by omega)] at x11
              clear g0 g1 g2 g3 f0 f1 f2 f3 v0 v1 v2 v3 XNn
              obtain ⟨y0, y1, y2, y3, -⟩ := HQ2.out
              generalize inkR D (cx, cy) (fun _ => 0) 0 = i0 at *
              generalize inkR D (cx, cy) (fun _ => 0) 1 = i1 at *
              generalize inkR D (cx, cy) (fun _ => 0) 2 = i2 at *
              generalize inkR D (cx, cy) (fun _ => 0) 3 = i3 at *
              have E25 := fun v => eq25s i0 i1 i2 i3 v
              have q1 : (0 : Int) ≤ (j : Int) := by omega
              have q2 : (j : Int) < (n : Int) := by omega
              go_upto_region 20 with fail
              have L0 := fun mm : Later wr => mm.cell u0
              have L1 := fun mm : Later wr => mm.cell u1
              have L2 := fun mm : Later wr => mm.cell u2
              have L3 := fun mm : Later wr => mm.cell u3
              have L4 := fun mm : Later wr => mm.cell x2
              have L5 := fun mm : Later wr => mm.cell x5
              have L6 := fun mm : Later wr => mm.cell x8
              have L7 := fun mm : Later wr => mm.cell x11
              have L8 := fun mm : Later wr => mm.cell y0
              have L9 := fun mm : Later wr => mm.cell y1
              have L10 := fun mm : Later wr => mm.cell y2
              have L11 := fun mm : Later wr => mm.cell y3
              refine region_later (by kernel_rfl) (by kernel_rfl) ?_
              iterate 27 (go_big_quiet_want; go_big_quiet_op; go_big_quiet_on)
              refine wpQuiet_nil ?_
              refine later_end ?_
              intro mm
              have HV2 := Lib.hid (below_on HV.out mm.below)
              clear L0 L1 L2 L3 L4 L5 L6 L7 L8 L9 L10 L11 u0 u1 u2 u3 x2 x5 x8 x11 y0 y1 y2 y3 HV HQ HQ2
              generalize mm.wd = w12 at *
              clear mm
              go_wp2
              go_roundw
              case rel => exact ⟨j + 1, by omega, by go_num, HV2⟩
              case measure => simp [intOf] <;> omega
        · have G7 := Lib.hid (G6.out.trans (HW.out.mono (by have := G6.out.size; omega)))
          go_wp2_with fail
          refine (awake53 _).mono ?_
          rintro e u ⟨rfl, hb⟩
          have G := Lib.hid (below_on G7.out hb)
          clear hb
          go_wp2
          go_ret
          exact ⟨rfl, G.out⟩
end Go.Proofs.Ytjclioakdmilmaa
end
