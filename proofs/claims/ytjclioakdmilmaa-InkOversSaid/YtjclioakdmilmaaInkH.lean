/- Four plates in memory; the contract of stroke's closure put. -/
import Derived.Test.YtjclioakdmilmaaInkF
import Derived.Test.YtjclioakdmilmaaInkPlainC
import Derived.Test.YtjclioakdmilmaaInkD
namespace Go.Proofs.Ytjclioakdmilmaa
open Go.RowKit
open Num Ink
set_option linter.unusedVariables false
/-- only four blocks have changed -/
structure Kp (g : Nat → Nat) (w w' : World) : Prop where
  os : w'.os = w.os
  tape : w'.tape = w.tape
  output : w'.output = w.output
  size : w.heap.size ≤ w'.heap.size
  block : ∀ k, k < w.heap.size → (∀ i, i < 4 → k ≠ g i) → w'.heap[k]? = w.heap[k]?
theorem Kp.refl (g : Nat → Nat) (w : World) : Kp g w w := ⟨rfl, rfl, rfl, Nat.le_refl _, fun _ _ _ => rfl⟩
theorem Kp.of {g : Nat → Nat} {w w' : World} (h : Below w.heap.size w w') : Kp g w w' := ⟨h.os, h.tape, h.output, h.size, fun k hk _ => h.block k hk⟩
theorem Kp.trans {g : Nat → Nat} {a b c : World} (h : Kp g a b) (k : Kp g b c) : Kp g a c :=
  ⟨k.os.trans h.os, k.tape.trans h.tape, k.output.trans h.output, Nat.le_trans h.size k.size, fun i hi hn => (k.block i (Nat.lt_of_lt_of_le hi h.size) hn).trans (h.block i hi hn)⟩
theorem Kp.on {g : Nat → Nat} {a b c : World} (h : Kp g a b) (k : Below b.heap.size b c) : Kp g a c := h.trans (.of k)
theorem Kp.set {g : Nat → Nat} {a b : World} (h : Kp g a b) {i : Nat} (hi : i < 4) (m : Nat) (v : Value) : Kp g a (b.setCell ⟨g i, m, none⟩ v) :=
  ⟨h.os, h.tape, h.output, by simpa using h.size, fun k hk hn => by rw [Below.heap_setCell _ _ _ _ (by show k ≠ g i; exact hn i hi)]; exact h.block k hk hn⟩
theorem Kp.below {g : Nat → Nat} {a b : World} (h : Kp g a b) {B : Nat} (hB : B ≤ a.heap.size) (hg : ∀ i, i < 4 → B ≤ g i) : Below B a b :=
  ⟨h.os, h.tape, h.output, h.size, fun k hk => h.block k (by omega) fun i hi e => by have := hg i hi; omega⟩
theorem Kp.cell {g : Nat → Nat} {a b : World} (h : Kp g a b) {k o : Nat} {v : Value} (hc : a.cell? ⟨k, o, none⟩ = some v) (hn : ∀ i, i < 4 → k ≠ g i) : b.cell? ⟨k, o, none⟩ = some v :=
  (World.cell?_of_block (a := ⟨k, o, none⟩) (h.block k (cell_lt hc) hn)).trans hc
theorem Kp.frozen {g : Nat → Nat} {a b : World} (h : Kp g a b) {k o : Nat} (hc : k < a.heap.size) (hn : ∀ i, i < 4 → k ≠ g i) : b.frozen? ⟨k, o, none⟩ = a.frozen? ⟨k, o, none⟩ :=
  World.frozen?_of_block (a := ⟨k, o, none⟩) (h.block k hc hn)
/-- four plates in memory: block o holds the plates, the blocks g their cells -/
structure Pls (v : World) (o : Nat) (g c : Nat → Nat) (n : Nat) (W H : Int) (V : Pic) : Prop where
  wd : ∀ i, i < 4 → v.cell? ⟨o, i * 3, none⟩ = some (.int .i64 W)
  ht : ∀ i, i < 4 → v.cell? ⟨o, i * 3 + 1, none⟩ = some (.int .i64 H)
  sl : ∀ i, i < 4 → v.cell? ⟨o, i * 3 + 2, none⟩ = some (.slice (some ⟨g i, 0, none⟩) n (c i))
  cp : ∀ i, i < 4 → n ≤ c i
  px : ∀ i, i < 4 → ∀ j, j < n → v.cell? ⟨g i, j, none⟩ = some (.int .i64 (V i j))
  fr : ∀ i, i < 4 → ∀ j, v.frozen? ⟨g i, j, none⟩ = false
  on : ∀ i, i < 4 → o ≠ g i
  gn : ∀ i j, i < 4 → j < 4 → i ≠ j → g i ≠ g j
  pos : 0 < n
theorem Pls.glt {v : World} {o : Nat} {g c : Nat → Nat} {n : Nat} {W H : Int} {V : Pic} (h : Pls v o g c n W H V) (i : Nat) (hi : i < 4) : g i < v.heap.size := cell_lt (h.px i hi 0 h.pos)
theorem Pls.olt {v : World} {o : Nat} {g c : Nat → Nat} {n : Nat} {W H : Int} {V : Pic} (h : Pls v o g c n W H V) : o < v.heap.size := cell_lt (h.wd 0 (by omega))
theorem Pls.later {v u : World} {o : Nat} {g c : Nat → Nat} {n : Nat} {W H : Int} {V : Pic} (h : Pls v o g c n W H V) (hb : Below v.heap.size v u) : Pls u o g c n W H V :=
  ⟨fun i hi => cell_on (h.wd i hi) hb, fun i hi => cell_on (h.ht i hi) hb, fun i hi => cell_on (h.sl i hi) hb, h.cp, fun i hi j hj => cell_on (h.px i hi j hj) hb, fun i hi j => (hb.frozen (p := ⟨g i, j, none⟩) (h.glt i hi)).trans (h.fr i hi j), h.on, h.gn, h.pos⟩
theorem Pls.congr {v : World} {o : Nat} {g c : Nat → Nat} {n : Nat} {W H : Int} {V V' : Pic} (h : Pls v o g c n W H V) (e : ∀ i, i < 4 → ∀ j, j < n → V' i j = V i j) : Pls v o g c n W H V' :=
  ⟨h.wd, h.ht, h.sl, h.cp, fun i hi j hj => by rw [e i hi j hj]; exact h.px i hi j hj, h.fr, h.on, h.gn, h.pos⟩
/-- one cell of one plate -/
def set1 (V : Pic) (i m : Nat) (z : Int) : Pic := fun i' j => if i' = i ∧ j = m then z else V i' j
theorem Pls.put {v : World} {o : Nat} {g c : Nat → Nat} {n : Nat} {W H : Int} {V : Pic} (h : Pls v o g c n W H V) {i m : Nat} (hi : i < 4) (hm : m < n) (z : Int) : Pls (v.setCell ⟨g i, m, none⟩ (.int .i64 z)) o g c n W H (set1 V i m z) := by
  have no : ∀ x, (⟨g i, m, none⟩ : Addr) ≠ ⟨o, x, none⟩ := by intro x e; injection e with e1 e2; exact h.on i hi e1.symm
  refine ⟨fun k hk => ?_, fun k hk => ?_, fun k hk => ?_, h.cp, fun k hk j hj => ?_, fun k hk j => by simp [h.fr k hk j], h.on, h.gn, h.pos⟩
  · rw [World.cell?_setCell_other _ _ _ _ (no _)]; exact h.wd k hk
  · rw [World.cell?_setCell_other _ _ _ _ (no _)]; exact h.ht k hk
  · rw [World.cell?_setCell_other _ _ _ _ (no _)]; exact h.sl k hk
  · unfold set1
    by_cases e : k = i ∧ j = m
    · obtain ⟨rfl, rfl⟩ := e
      rw [if_pos ⟨rfl, rfl⟩]
      exact World.cell?_setCell_same _ _ _ (h.px k hi j hm)
    · rw [if_neg e, World.cell?_setCell_other _ _ _ _ ?_]
      · exact h.px k hk j hj
      · intro q
        injection q with q1 q2
        by_cases ek : k = i
        · exact e ⟨ek, q2.symm⟩
        · exact h.gn k i hk hi ek q1.symm
/-- the inks of four plates by number -/
def ik4 (a b c d : Int) (i : Nat) : Int := if i = 0 then a else if i = 1 then b else if i = 2 then c else d
theorem idx25_any (a b c d : Int) (j : Nat) (hj : j < 4) (w : World) : (Instr.index 25 (.agg #[.int .i64 a, .int .i64 b, .int .i64 c, .int .i64 d]) (.int .i64 j)).run Try.prog w = .ok (.int .i64 (ik4 a b c d j)) w := by
  obtain rfl | rfl | rfl | rfl : j = 0 ∨ j = 1 ∨ j = 2 ∨ j = 3 := by omega
  · exact idx25_0 _ _ _ _ w
  · exact idx25_1 _ _ _ _ w
  · exact idx25_2 _ _ _ _ w
  · exact idx25_3 _ _ _ _ w
/-- what the cells of a picture are after some plates have got one ink -/
def upto (V : Pic) (ik : Nat → Int) (m k : Nat) : Pic := fun i j => if i < k ∧ j = m then ik i else V i j
theorem upto_set (V : Pic) (ik : Nat → Int) (m k : Nat) (i j : Nat) : upto V ik m (k + 1) i j = set1 (upto V ik m k) k m (ik k) i j := by
  unfold set1 upto
  by_cases h1 : i = k ∧ j = m
  · obtain ⟨rfl, rfl⟩ := h1; simp
  · rw [if_neg h1]
    by_cases h2 : i < k ∧ j = m
    · rw [if_pos h2, if_pos ⟨by omega, h2.2⟩]
    · rw [if_neg h2, if_neg]
      intro h3; rcases Nat.lt_or_ge i k with h | h
      · exact h2 ⟨h, h3.2⟩
      · exact h1 ⟨by omega, h3.2⟩
theorem cell_in {cx cy W H : Int} {n : Nat} (hn : (n : Int) = W * H) (h1 : 0 ≤ cx) (h2 : cx < W) (h3 : 0 ≤ cy) (h4 : cy < H) : 0 ≤ cy * W ∧ ∃ m : Nat, cy * W + cx = (m : Int) ∧ m < n := by
  have a1 : 0 ≤ cy * W := Int.mul_nonneg h3 (by omega)
  have a2 : cy * W ≤ (H - 1) * W := Int.mul_le_mul_of_nonneg_right (by omega) (by omega)
  have a3 : (H - 1) * W = W * H - W := by rw [Int.sub_mul, Int.one_mul, Int.mul_comm]
  exact ⟨a1, (cy * W + cx).toNat, by omega, by omega⟩
theorem w64i (x : Int) (h1 : -9223372036854775808 ≤ x) (h2 : x ≤ 9223372036854775807) : wrap64 x = x := by unfold wrap64; omega
theorem n_le {W H : Int} {n : Nat} (hn : (n : Int) = W * H) (hW : 0 ≤ W ∧ W ≤ 256) (hH : 0 ≤ H ∧ H ≤ 256) : n ≤ 65536 := by
  have h : W * H ≤ 256 * 256 := Int.mul_le_mul hW.2 hH.2 hH.1 (by omega)
  omega
/-- what a painting leaves -/
def PutR (o : Nat) (g c : Nat → Nat) (n : Nat) (W H : Int) (V : Pic) (w w' : World) : Prop := Pls w' o g c n W H V ∧ Kp g w w'
set_option maxRecDepth 100000 in
set_option maxHeartbeats 4000000 in
theorem put_any (cx cy W H a b c d : Int) (o kp kx kw kh n : Nat) (g cc : Nat → Nat) (V : Pic) (w : World) (hP : Pls w o g cc n W H V) (hn : (n : Int) = W * H) (hW : 0 ≤ W ∧ W ≤ 256) (hH : 0 ≤ H ∧ H ≤ 256)
    (c1 : w.cell? ⟨kw, 0, none⟩ = some (.int .i64 W)) (c2 : w.cell? ⟨kh, 0, none⟩ = some (.int .i64 H)) (c3 : w.cell? ⟨kp, 0, none⟩ = some (.pointer (some ⟨o, 0, none⟩)))
    (x6 : w.cell? ⟨kx, 6, none⟩ = some (.int .i64 a)) (x7 : w.cell? ⟨kx, 7, none⟩ = some (.int .i64 b)) (x8 : w.cell? ⟨kx, 8, none⟩ = some (.int .i64 c)) (x9 : w.cell? ⟨kx, 9, none⟩ = some (.int .i64 d))
    (n1 : ∀ i, i < 4 → kw ≠ g i) (n2 : ∀ i, i < 4 → kh ≠ g i) (n3 : ∀ i, i < 4 → kp ≠ g i) :
    Calls Try.prog 43 #[.agg #[.int .i64 cx, .int .i64 cy], .pointer (some ⟨kw, 0, none⟩), .pointer (some ⟨kh, 0, none⟩), .pointer (some ⟨kx, 0, none⟩), .pointer (some ⟨kp, 0, none⟩)] w
      fun e w' => e = .returned (.tuple #[]) ∧ PutR o g cc n W H (putC W H (ik4 a b c d) (cx, cy) V) w w' := by
  have HP := Lib.hid hP
  have hn6 := n_le hn hW hH
  have b0 := below_al w (.cells #[.int .i64 cx, .int .i64 cy] 29)
  have HP1 := Lib.hid (hP.later b0)
  have HK1 := Lib.hid (Kp.of (g := g) b0)
  obtain ⟨p0, p1, -⟩ := Bx.new w cx cy 29
  have c1 := cell_on c1 b0
  have c2 := cell_on c2 b0
  have c3 := cell_on c3 b0
  have x6 := cell_on x6 b0
  have x7 := cell_on x7 b0
  have x8 := cell_on x8 b0
  have x9 := cell_on x9 b0
  have HGS : Hid (∀ i, i < 4 → w.heap.size ≠ g i) := Lib.hid (fun i hi e => by have := hP.glt i hi; omega)
  have hno : ∀ (hh : ¬ (0 ≤ cx ∧ cx < W ∧ 0 ≤ cy ∧ cy < H)), putC W H (ik4 a b c d) (cx, cy) V = V := fun hh => by
    unfold putC; funext i j; rw [if_neg (fun q => hh q.1)]
  have hye : ∀ m : Nat, (0 ≤ cx ∧ cx < W ∧ 0 ≤ cy ∧ cy < H) → cy * W + cx = (m : Int) → ∀ i, i < 4 → ∀ j, putC W H (ik4 a b c d) (cx, cy) V i j = upto V (ik4 a b c d) m 4 i j := fun m hh hm i hi j => by
    unfold putC upto
    by_cases e : j = m
    · rw [if_pos ⟨hh, by rw [e]; exact hm.symm⟩, if_pos ⟨hi, e⟩]
    · rw [if_neg, if_neg (fun q => e q.2)]
      rintro ⟨-, q⟩
      exact e (by have q' : (j : Int) = cy * W + cx := q; omega)
  have HNO := Lib.hid hno
  have HYE := Lib.hid hye
  generalize putC W H (ik4 a b c d) (cx, cy) V = VV at *
  have HN := Lib.hid hn
  clear hP b0 hno hye hn
  go_enter Try.func43, Try.ntmps43
  go_upto_region 1 with fail
  generalize w.alloc (.cells #[.int .i64 cx, .int .i64 cy] 29) = w1 at *
  by_cases h1 : cx < 0
  · have e := HNO.out (by omega)
    have d1 : decide (cx < 0) = true := by simpa using h1
    subst e
    clear HNO HYE
    go_wp2
    exact bodyPost_ret (results_none rfl _ _ _) rfl ⟨rfl, HP1.out, HK1.out⟩
  have d1 : decide (cx < 0) = false := by simpa using h1
  by_cases h2 : W ≤ cx
  · have e := HNO.out (by omega)
    have d2 : decide (W ≤ cx) = true := by simpa using h2
    subst e
    clear HNO HYE
    go_wp2
    exact bodyPost_ret (results_none rfl _ _ _) rfl ⟨rfl, HP1.out, HK1.out⟩
  have d2 : decide (W ≤ cx) = false := by simpa using h2
  by_cases h3 : cy < 0
  · have e := HNO.out (by omega)
    have d3 : decide (cy < 0) = true := by simpa using h3
    subst e
    clear HNO HYE
    go_wp2
    exact bodyPost_ret (results_none rfl _ _ _) rfl ⟨rfl, HP1.out, HK1.out⟩
  have d3 : decide (cy < 0) = false := by simpa using h3
  by_cases h4 : H ≤ cy
  · have e := HNO.out (by omega)
    have d4 : decide (H ≤ cy) = true := by simpa using h4
    subst e
    clear HNO HYE
    go_wp2
    exact bodyPost_ret (results_none rfl _ _ _) rfl ⟨rfl, HP1.out, HK1.out⟩
  have d4 : decide (H ≤ cy) = false := by simpa using h4
  have hin : 0 ≤ cx ∧ cx < W ∧ 0 ≤ cy ∧ cy < H := ⟨by omega, by omega, by omega, by omega⟩
  obtain ⟨hm0, m, hm, hmn⟩ := cell_in HN.out hin.1 hin.2.1 hin.2.2.1 hin.2.2.2
  have HY := Lib.hid (HYE.out m hin hm)
  clear HNO HYE hin
  have HM := Lib.hid hm
  clear hm
  go_wp2_with fail
  go_loopw [30] (fun i wr => ∃ k : Nat, k ≤ 4 ∧ i = .int .i64 k ∧ Hid (Pls wr o g cc n W H (upto V (ik4 a b c d) m k)) ∧ Hid (Kp g w1 wr)) (fun i _ => 4 - (intOf i).toNat)
  case atStart => exact ⟨0, by omega, rfl, Lib.hid (HP1.out.congr fun i _ j _ => by unfold upto; rw [if_neg (by omega)]), Lib.hid (Kp.refl _ _)⟩
  case round =>
    obtain ⟨k, hk, rfl, HR, HK⟩ := hrel
    by_cases hlt : k < 4
    · have q1 : (0 : Int) ≤ (k : Int) := by omega
      have q2 : (k : Int) < 4 := by omega
      have y1 := HK.out.cell c1 n1
      have y2 := HK.out.cell c2 n2
      have y3 := HK.out.cell c3 n3
      have y4 := HK.out.cell p0 HGS.out
      have y5 := HK.out.cell p1 HGS.out
      have y6 := HR.out.sl k hlt
      have y7 := HR.out.px k hlt m hmn
      have y8 := HR.out.fr k hlt m
      have IX := fun v => idx25_any a b c d k hlt v
      have hM : wrap64 (wrap64 (cy * W) + cx) = (m : Int) := by have := HM.out; rw [w64i (cy * W) (by omega) (by omega), w64i _ (by omega) (by omega)]; exact this
      have q3 : (0 : Int) ≤ (m : Int) := by omega
      have q4 : (m : Int) < (n : Int) := by omega
      have ha : (w1.cell? ⟨w.heap.size, 0, none⟩).isSome := by rw [p0]; rfl
      go_wp2_with fail
      refine region_freeL (P := Try.prog) [] 15 15 50 29 (.cells #[.int .i64 0, .int .i64 0] 29) (by kernel_rfl) (by decide) (by kernel_rfl) (fun _ _ _ _ _ h => h) ?_ (by kernel_rfl) (by kernel_rfl) alloc_pt ?_
      · rfl
      apply Exists.intro
      refine ⟨?hqt, ?hft⟩
      case hqt =>
        intro X' hne
        haveI := hne
        simp only [List.take_succ_cons, List.take_zero]
        have L1 := fun m' : LaterX wr X' => m'.cell y1
        have L3 := fun m' : LaterX wr X' => m'.cell y3
        have L4 := fun m' : LaterX wr X' => m'.cell y4
        have L5 := fun m' : LaterX wr X' => m'.cell y5
        have L6 := fun m' : LaterX wr X' => m'.cell y6
        iterate 15 (go_big_quiet_want; go_big_quiet_op; go_big_quiet_on)
        exact wpQuiet_nil rfl
      intro G w8 hb _ _
      simp only [List.take_succ_cons, List.take_zero, List.drop_succ_cons, List.drop_zero, ptrs, putsL]
      have HR2 := Lib.hid ((HR.out.later hb).put hlt hmn (ik4 a b c d k))
      have HR3 := Lib.hid (HR2.out.congr fun i _ j _ => upto_set V (ik4 a b c d) m k i j)
      have HK2 := Lib.hid ((HK.out.on hb).set hlt m (.int .i64 (ik4 a b c d k)))
      have z7 := cell_on y7 hb
      have z8 : w8.frozen? ⟨g k, m, none⟩ = false := (hb.frozen (p := ⟨g k, m, none⟩) (HR.out.glt k hlt)).trans y8
      clear hb HR HK HR2 y1 y2 y3 y4 y5 y6 y7 y8 IX
      go_wp2
      go_roundw
      case rel => exact ⟨k + 1, by omega, by go_num, HR3, HK2⟩
      case measure => simp [intOf] <;> omega
    · obtain rfl : k = 4 := by omega
      have R1 := Lib.hid (HR.out.congr (V' := VV) fun i hi j _ => HY.out i hi j)
      have R2 := Lib.hid (HK1.out.trans HK.out)
      clear HR HK HY HK1 HP1
      go_wp2
      go_end0
      exact ⟨rfl, R1.out, R2.out⟩
end Go.Proofs.Ytjclioakdmilmaa
