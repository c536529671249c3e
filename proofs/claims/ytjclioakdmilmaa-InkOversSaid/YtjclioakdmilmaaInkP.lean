/- The contract of the law's awake: the walk. -/
import Derived.Test.YtjclioakdmilmaaInkO
namespace Go.Proofs.Ytjclioakdmilmaa
open Go.RowKit
open Num Ink
set_option linter.unusedVariables false
def Q12 (v : World) (b : Nat) (ad : Nat → Option Addr) (cp : Nat → Nat) : Prop := v.cell? ⟨b, 0, none⟩ = some (.int .i64 3) ∧ v.cell? ⟨b, 1, none⟩ = some (.int .i64 2) ∧ v.cell? ⟨b, 2, none⟩ = some (.slice (ad 0) 6 (cp 0)) ∧ v.cell? ⟨b, 3, none⟩ = some (.int .i64 3) ∧ v.cell? ⟨b, 4, none⟩ = some (.int .i64 2) ∧ v.cell? ⟨b, 5, none⟩ = some (.slice (ad 1) 6 (cp 1)) ∧ v.cell? ⟨b, 6, none⟩ = some (.int .i64 3) ∧ v.cell? ⟨b, 7, none⟩ = some (.int .i64 2) ∧ v.cell? ⟨b, 8, none⟩ = some (.slice (ad 2) 6 (cp 2)) ∧ v.cell? ⟨b, 9, none⟩ = some (.int .i64 3) ∧ v.cell? ⟨b, 10, none⟩ = some (.int .i64 2) ∧ v.cell? ⟨b, 11, none⟩ = some (.slice (ad 3) 6 (cp 3))
theorem Q12.later {v u : World} {b : Nat} {ad : Nat → Option Addr} {cp : Nat → Nat} (h : Q12 v b ad cp) (hb : Below v.heap.size v u) : Q12 u b ad cp := by
  obtain ⟨h0, h1, h2, h3, h4, h5, h6, h7, h8, h9, h10, h11⟩ := h
  exact ⟨cell_on h0 hb, cell_on h1 hb, cell_on h2 hb, cell_on h3 hb, cell_on h4 hb, cell_on h5 hb, cell_on h6 hb, cell_on h7 hb, cell_on h8 hb, cell_on h9 hb, cell_on h10 hb, cell_on h11 hb⟩
theorem Q12.new (v : World) (ad : Nat → Option Addr) (cp : Nat → Nat) (t : TypeId) : Q12 (v.alloc (.cells #[.int .i64 3, .int .i64 2, .slice (ad 0) 6 (cp 0), .int .i64 3, .int .i64 2, .slice (ad 1) 6 (cp 1), .int .i64 3, .int .i64 2, .slice (ad 2) 6 (cp 2), .int .i64 3, .int .i64 2, .slice (ad 3) 6 (cp 3)] t)) v.heap.size ad cp := by
  unfold Q12; simp
/-- what the operations of 'q, f := ink.Over(p, ..)' yield -/
def RA (ad : Nat → Option Addr) (cp : Nat → Nat) (B : Nat) : Nat → Value → World → Prop
  | 0 => fun v _ => v = .agg #[.int .i64 3, .int .i64 2, .slice (ad 0) 6 (cp 0), .int .i64 3, .int .i64 2, .slice (ad 1) 6 (cp 1), .int .i64 3, .int .i64 2, .slice (ad 2) 6 (cp 2), .int .i64 3, .int .i64 2, .slice (ad 3) 6 (cp 3)]
  | 1 => fun v _ => v = .agg #[.int .i64 1, .int .i64 1]
  | 2 => fun v w => ∃ g, v = .slice (some ⟨g, 0, none⟩) 1 1 ∧ Pts w w.heap.size (some ⟨g, 0, none⟩) [(1, 1)]
  | 3 => fun v _ => v = .agg #[.int .i64 0, .int .i64 7, .int .i64 0, .int .i64 0]
  | 4 => fun v w => ∃ g, v = .agg #[.int .i64 2, .int .i64 0, .int .i64 0, .int .i64 0, .int .i64 0, .slice (some ⟨g, 0, none⟩) 1 1, .int .i64 0, .int .i64 7, .int .i64 0, .int .i64 0] ∧ Pts w w.heap.size (some ⟨g, 0, none⟩) [(1, 1)]
  | 5 => fun v w => ∃ g, v = .slice (some ⟨g, 0, none⟩) 1 1 ∧ Drs w w.heap.size (some ⟨g, 0, none⟩) exS
  | 6 => fun v w => ∃ (ad : Nat → Option Addr) (cp : Nat → Nat), v = .tuple #[.agg #[.int .i64 3, .int .i64 2, .slice (ad 0) 6 (cp 0), .int .i64 3, .int .i64 2, .slice (ad 1) 6 (cp 1), .int .i64 3, .int .i64 2, .slice (ad 2) 6 (cp 2), .int .i64 3, .int .i64 2, .slice (ad 3) 6 (cp 3)], .int .i64 0] ∧ Ns4 w ad exV2
  | 7 => fun v w => ∃ (ad : Nat → Option Addr) (cp : Nat → Nat), v = .tuple #[.agg #[.int .i64 3, .int .i64 2, .slice (ad 0) 6 (cp 0), .int .i64 3, .int .i64 2, .slice (ad 1) 6 (cp 1), .int .i64 3, .int .i64 2, .slice (ad 2) 6 (cp 2), .int .i64 3, .int .i64 2, .slice (ad 3) 6 (cp 3)], .int .i64 0] ∧ Ns4 w ad exV2
  | 8 => fun v w => ∃ (ad : Nat → Option Addr) (cp : Nat → Nat), v = .agg #[.int .i64 3, .int .i64 2, .slice (ad 0) 6 (cp 0), .int .i64 3, .int .i64 2, .slice (ad 1) 6 (cp 1), .int .i64 3, .int .i64 2, .slice (ad 2) 6 (cp 2), .int .i64 3, .int .i64 2, .slice (ad 3) 6 (cp 3)] ∧ Ns4 w ad exV2
  | 9 => fun v _ => v = .int .i64 0
  | 10 => fun v w => ∃ g, v = .pointer (some ⟨g, 0, none⟩) ∧ B ≤ g ∧ w.heap[g]? = some (.cells #[.int .i64 0, .int .i64 0, .slice none 0 0, .int .i64 0, .int .i64 0, .slice none 0 0, .int .i64 0, .int .i64 0, .slice none 0 0, .int .i64 0, .int .i64 0, .slice none 0 0] 41 (0, 0))
  | _ => fun _ _ => True
theorem RA.stab (ad : Nat → Option Addr) (cp : Nat → Nat) (B : Nat) (j : Nat) (v : Value) (w w' : World) (h : RA ad cp B j v w) (hb : Below w.heap.size w w') : RA ad cp B j v w' := by
  match j, h with
  | 0, h => exact h
  | 1, h => exact h
  | 2, ⟨g, h1, h2⟩ => exact ⟨g, h1, h2.later hb⟩
  | 3, h => exact h
  | 4, ⟨g, h1, h2⟩ => exact ⟨g, h1, h2.later hb⟩
  | 5, ⟨g, h1, h2⟩ => exact ⟨g, h1, (h2.old hb).le hb.size⟩
  | 6, ⟨a, c, h1, h2⟩ => exact ⟨a, c, h1, h2.later hb⟩
  | 7, ⟨a, c, h1, h2⟩ => exact ⟨a, c, h1, h2.later hb⟩
  | 8, ⟨a, c, h1, h2⟩ => exact ⟨a, c, h1, h2.later hb⟩
  | 9, h => exact h
  | 10, ⟨g, h1, h2, h3⟩ => exact ⟨g, h1, h2, (hb.block g (lt_of_block h3)).trans h3⟩
  | n + 11, h => trivial
theorem z12_blk {w : World} {g : Nat} {t : TypeId} (h : w.heap[g]? = some (.cells #[.int .i64 0, .int .i64 0, .slice none 0 0, .int .i64 0, .int .i64 0, .slice none 0 0, .int .i64 0, .int .i64 0, .slice none 0 0, .int .i64 0, .int .i64 0, .slice none 0 0] t (0, 0))) : Z12 w g ∧ (∀ j, w.frozen? ⟨g, j, none⟩ = false) ∧ ∀ o, w.cell? ⟨g, o, none⟩ = (#[.int .i64 0, .int .i64 0, .slice none 0 0, .int .i64 0, .int .i64 0, .slice none 0 0, .int .i64 0, .int .i64 0, .slice none 0 0, .int .i64 0, .int .i64 0, .slice none 0 0] : Array Value)[o]? := by
  have hc : ∀ o, w.cell? ⟨g, o, none⟩ = (#[.int .i64 0, .int .i64 0, .slice none 0 0, .int .i64 0, .int .i64 0, .slice none 0 0, .int .i64 0, .int .i64 0, .slice none 0 0, .int .i64 0, .int .i64 0, .slice none 0 0] : Array Value)[o]? := fun o => by unfold World.cell?; rw [h]; rfl
  refine ⟨?_, fun j => by unfold World.frozen?; rw [h]; simp, hc⟩
  unfold Z12
  simp [hc]
/-- a row of numbers lies in no block of four empty plates -/
theorem zl_no (off : Nat) : ∃ j, j < 3 ∧ ∀ x : Int, (#[.int .i64 0, .int .i64 0, .slice none 0 0, .int .i64 0, .int .i64 0, .slice none 0 0, .int .i64 0, .int .i64 0, .slice none 0 0, .int .i64 0, .int .i64 0, .slice none 0 0] : Array Value)[off + j]? ≠ some (.int .i64 x) := by
  by_cases h : off < 12
  · obtain rfl | rfl | rfl | rfl | rfl | rfl | rfl | rfl | rfl | rfl | rfl | rfl : off = 0 ∨ off = 1 ∨ off = 2 ∨ off = 3 ∨ off = 4 ∨ off = 5 ∨ off = 6 ∨ off = 7 ∨ off = 8 ∨ off = 9 ∨ off = 10 ∨ off = 11 := by omega
    · exact ⟨2, by omega, fun x => by simp⟩
    · exact ⟨1, by omega, fun x => by simp⟩
    · exact ⟨0, by omega, fun x => by simp⟩
    · exact ⟨2, by omega, fun x => by simp⟩
    · exact ⟨1, by omega, fun x => by simp⟩
    · exact ⟨0, by omega, fun x => by simp⟩
    · exact ⟨2, by omega, fun x => by simp⟩
    · exact ⟨1, by omega, fun x => by simp⟩
    · exact ⟨0, by omega, fun x => by simp⟩
    · exact ⟨2, by omega, fun x => by simp⟩
    · exact ⟨1, by omega, fun x => by simp⟩
    · exact ⟨0, by omega, fun x => by simp⟩
  · refine ⟨0, by omega, fun x => ?_⟩
    rw [Array.getElem?_eq_none (by simp; omega)]
    simp
theorem Ns4.apart {w : World} {g : Nat} {t : TypeId} {ad : Nat → Option Addr} {vs : Nat → List Int} (hN : Ns4 w ad vs) (h : w.heap[g]? = some (.cells #[.int .i64 0, .int .i64 0, .slice none 0 0, .int .i64 0, .int .i64 0, .slice none 0 0, .int .i64 0, .int .i64 0, .slice none 0 0, .int .i64 0, .int .i64 0, .slice none 0 0] t (0, 0))) (hl : ∀ i, i < 4 → 3 ≤ (vs i).length) : ∀ i, i < 4 → ∀ b o, ad i = some ⟨b, o, none⟩ → b ≠ g := fun i hi b o e hbg => by
  subst hbg
  have h3 := hl i hi
  obtain ⟨b', o', e', -, hc⟩ := hN i hi (by omega)
  rw [e] at e'
  injection e' with e'
  injection e' with e1 e2
  subst e1 e2
  obtain ⟨j, hj, hx⟩ := zl_no o
  have := hc j (by omega)
  rw [(z12_blk h).2.2] at this
  exact hx _ this
theorem Ns4.set' {u : World} {ad : Nat → Option Addr} {vs : Nat → List Int} (h : Ns4 u ad vs) {k : Nat} (hne : ∀ i, i < 4 → ∀ b o, ad i = some ⟨b, o, none⟩ → b ≠ k) (x : Nat) (z : Value) : Ns4 (u.setCell ⟨k, x, none⟩ z) ad vs := fun i hi hn => by
  obtain ⟨b, off, e, hb, hc⟩ := h i hi hn
  refine ⟨b, off, e, by simpa using hb, fun j hj => ?_⟩
  rw [World.cell?_setCell_other _ _ _ _ (by intro q; injection q with q1 q2; exact hne i hi b off e q1.symm)]
  exact hc j hj
/-- four plates laid into four empty ones -/
theorem laid12 {u : World} {g : Nat} {ad : Nat → Option Addr} {cp : Nat → Nat} (hz : Z12 u g) : Q12 ((((((((((((u.setCell ⟨g, 0, none⟩ (.int .i64 3)).setCell ⟨g, 1, none⟩ (.int .i64 2)).setCell ⟨g, 2, none⟩ (.slice (ad 0) 6 (cp 0))).setCell ⟨g, 3, none⟩ (.int .i64 3)).setCell ⟨g, 4, none⟩ (.int .i64 2)).setCell ⟨g, 5, none⟩ (.slice (ad 1) 6 (cp 1))).setCell ⟨g, 6, none⟩ (.int .i64 3)).setCell ⟨g, 7, none⟩ (.int .i64 2)).setCell ⟨g, 8, none⟩ (.slice (ad 2) 6 (cp 2))).setCell ⟨g, 9, none⟩ (.int .i64 3)).setCell ⟨g, 10, none⟩ (.int .i64 2)).setCell ⟨g, 11, none⟩ (.slice (ad 3) 6 (cp 3))) g ad cp := by
  obtain ⟨h0, h1, h2, h3, h4, h5, h6, h7, h8, h9, h10, h11⟩ := hz
  have CC := World.cell?_setCells_in g [.int .i64 3, .int .i64 2, .slice (ad 0) 6 (cp 0), .int .i64 3, .int .i64 2, .slice (ad 1) 6 (cp 1), .int .i64 3, .int .i64 2, .slice (ad 2) 6 (cp 2), .int .i64 3, .int .i64 2, .slice (ad 3) 6 (cp 3)] 0 u (fun j hj => by
    have hj' : j < 12 := by simpa using hj
    rw [Nat.zero_add]
    obtain rfl | rfl | rfl | rfl | rfl | rfl | rfl | rfl | rfl | rfl | rfl | rfl : j = 0 ∨ j = 1 ∨ j = 2 ∨ j = 3 ∨ j = 4 ∨ j = 5 ∨ j = 6 ∨ j = 7 ∨ j = 8 ∨ j = 9 ∨ j = 10 ∨ j = 11 := by omega
    · rw [h0]; rfl
    · rw [h1]; rfl
    · rw [h2]; rfl
    · rw [h3]; rfl
    · rw [h4]; rfl
    · rw [h5]; rfl
    · rw [h6]; rfl
    · rw [h7]; rfl
    · rw [h8]; rfl
    · rw [h9]; rfl
    · rw [h10]; rfl
    · rw [h11]; rfl)
  exact ⟨CC 0 (by simp), CC 1 (by simp), CC 2 (by simp), CC 3 (by simp), CC 4 (by simp), CC 5 (by simp), CC 6 (by simp), CC 7 (by simp), CC 8 (by simp), CC 9 (by simp), CC 10 (by simp), CC 11 (by simp)⟩
/-- n points are returned -/
def PtsN (n : Nat) (l : List (Int × Int)) (w : World) (e : Ending) (u : World) : Prop := ∃ a c, e = .returned (.slice a n c) ∧ Pts u u.heap.size a l ∧ Below w.heap.size w u
theorem cells_ex1 (w : World) : Calls Try.prog 12 #[.agg #[.int .i64 0, .int .i64 0], .agg #[.int .i64 4, .int .i64 2]] w (PtsN 5 [(0, 0), (1, 1), (2, 1), (3, 2), (4, 2)] w) :=
  (Cells_any 0 0 4 2 w).mono fun e u h => by
    obtain ⟨a, c, rfl, ⟨h2, -⟩, h3⟩ := h
    rw [ex_c1] at h2 ⊢
    exact ⟨a, c, rfl, h2, h3⟩
theorem cells_ex2 (w : World) : Calls Try.prog 12 #[.agg #[.int .i64 0, .int .i64 0], .agg #[.int .i64 2, .int .i64 (-1)]] w (PtsN 3 [(0, 0), (1, 0), (2, -1)] w) :=
  (Cells_any 0 0 2 (-1) w).mono fun e u h => by
    obtain ⟨a, c, rfl, ⟨h2, -⟩, h3⟩ := h
    rw [ex_c2] at h2 ⊢
    exact ⟨a, c, rfl, h2, h3⟩
theorem same_ex1 (a : Option Addr) (c : Nat) (w : World) (h : Pts w w.heap.size a [(0, 0), (1, 1), (2, 1), (3, 2), (4, 2)]) : Calls Try.prog 11 #[.slice a 5 c, .slice (some ⟨w.heap.size, 0, none⟩) 5 5] (w.alloc (.cells #[.int .i64 0, .int .i64 0, .int .i64 1, .int .i64 1, .int .i64 2, .int .i64 1, .int .i64 3, .int .i64 2, .int .i64 4, .int .i64 2] 29)) fun e u => e = .returned (.bool true) ∧ Below w.heap.size w u :=
  (same_true [(0, 0), (1, 1), (2, 1), (3, 2), (4, 2)] a (some ⟨w.heap.size, 0, none⟩) c 5 _ (by decide) (h.later (below_al _ _)) (lit_pts w [(0, 0), (1, 1), (2, 1), (3, 2), (4, 2)] #[.int .i64 0, .int .i64 0, .int .i64 1, .int .i64 1, .int .i64 2, .int .i64 1, .int .i64 3, .int .i64 2, .int .i64 4, .int .i64 2] rfl)).mono fun e u h => ⟨h.1, below_on (below_al _ _) h.2⟩
theorem same_ex2 (a : Option Addr) (c : Nat) (w : World) (h : Pts w w.heap.size a [(0, 0), (1, 0), (2, -1)]) : Calls Try.prog 11 #[.slice a 3 c, .slice (some ⟨w.heap.size, 0, none⟩) 3 3] (w.alloc (.cells #[.int .i64 0, .int .i64 0, .int .i64 1, .int .i64 0, .int .i64 2, .int .i64 (-1)] 29)) fun e u => e = .returned (.bool true) ∧ Below w.heap.size w u :=
  (same_true [(0, 0), (1, 0), (2, -1)] a (some ⟨w.heap.size, 0, none⟩) c 3 _ (by decide) (h.later (below_al _ _)) (lit_pts w [(0, 0), (1, 0), (2, -1)] #[.int .i64 0, .int .i64 0, .int .i64 1, .int .i64 0, .int .i64 2, .int .i64 (-1)] rfl)).mono fun e u h => ⟨h.1, below_on (below_al _ _) h.2⟩
theorem check_ex (k i : Int) (w : World) : Calls Try.prog 9 #[.agg #[.int .i64 k, .int .i64 0, .int .i64 0, .int .i64 0, .int .i64 0, .slice none 0 0, .int .i64 i, .int .i64 0, .int .i64 0, .int .i64 0]] w fun e u => e = .returned (.int .i64 (ckE k 0 0 0 0 [] i 0 0 0)) ∧ Below w.heap.size w u :=
  icheck_any k 0 0 0 0 [] none 0 i 0 0 0 w (fun h => absurd h (by simp))
theorem makes_val {P : Program} {R : Value → World → Prop} {w u : World} {r : Result Next} {x : Value} (hr : r = .ok (.value x) u) (hb : Below w.heap.size w u) (hR : R x u) : makesUpon P R w r := by
  rw [hr]; exact ⟨hb, hR⟩
set_option maxRecDepth 100000 in
set_option maxHeartbeats 16000000 in
theorem awake53 (w : World) : Calls Try.prog 14 #[] w fun e u => e = .returned (.bool true) ∧ Below w.heap.size w u := by
  go_enter Try.func14, Try.ntmps14
  go_wp2_with fail
  refine (example_any _).mono ?_
  rintro e v1 ⟨da, dc, rfl, hD, hb1⟩
  rw [show exD.length = 2 from rfl]
  have PX := Lib.hid (paint_ex da dc v1 hD)
  have G1 := Lib.hid hb1
  clear hD hb1
  go_wp2_with fail
  refine PX.out.mono ?_
  rintro e v2 ⟨ad, cp, rfl, hN, hb2⟩
  have G2 := Lib.hid (below_on G1.out hb2)
  have HN2 := Lib.hid hN
  clear hN hb2 PX G1
  go_upto_region 2 with fail
  have b3 := below_al v2 (.cells #[.int .i64 3, .int .i64 2, .slice (ad 0) 6 (cp 0), .int .i64 3, .int .i64 2, .slice (ad 1) 6 (cp 1), .int .i64 3, .int .i64 2, .slice (ad 2) 6 (cp 2), .int .i64 3, .int .i64 2, .slice (ad 3) 6 (cp 3)] 41)
  have Q3 := Lib.hid (Q12.new v2 ad cp 41)
  have HN3 := Lib.hid (HN2.out.later b3)
  have G3 := Lib.hid (below_on G2.out b3)
  clear b3 HN2 G2
  generalize hv3 : v2.alloc (.cells #[.int .i64 3, .int .i64 2, .slice (ad 0) 6 (cp 0), .int .i64 3, .int .i64 2, .slice (ad 1) 6 (cp 1), .int .i64 3, .int .i64 2, .slice (ad 2) 6 (cp 2), .int .i64 3, .int .i64 2, .slice (ad 3) 6 (cp 3)] 41) = v3 at *
  clear hv3
  generalize v2.heap.size = pb at *
  refine region_freeN (P := Try.prog) [9] 11 (RA ad cp v3.heap.size) (RA.stab ad cp v3.heap.size) (by kernel_rfl) (by kernel_rfl) (fun _ _ _ _ _ h => h) ?hmk ?hfin
  case hmk =>
    intro i hi oo ho U v hv hk
    obtain rfl | rfl | rfl | rfl | rfl | rfl | rfl | rfl | rfl | rfl | rfl : i = 0 ∨ i = 1 ∨ i = 2 ∨ i = 3 ∨ i = 4 ∨ i = 5 ∨ i = 6 ∨ i = 7 ∨ i = 8 ∨ i = 9 ∨ i = 10 := by omega
    · simp only [List.getElem?_cons_zero, Option.some.injEq] at ho
      subst ho
      clear hk
      obtain ⟨h0, h1, h2, h3, h4, h5, h6, h7, h8, h9, h10, h11⟩ := Q3.out.later hv
      simp only [List.take_zero, mks, putsL]
      have e : ∀ r, r = .ok (.value (.agg #[.int .i64 3, .int .i64 2, .slice (ad 0) 6 (cp 0), .int .i64 3, .int .i64 2, .slice (ad 1) 6 (cp 1), .int .i64 3, .int .i64 2, .slice (ad 2) 6 (cp 2), .int .i64 3, .int .i64 2, .slice (ad 3) 6 (cp 3)])) v → makesUpon Try.prog (RA ad cp v3.heap.size 0) v r := fun r h => by rw [h]; exact ⟨Below.refl _ _, rfl⟩
      apply e
      simp [execOp, go_sem, h0, h1, h2, h3, h4, h5, h6, h7, h8, h9, h10, h11]
    · simp only [List.getElem?_cons_succ, List.getElem?_cons_zero, Option.some.injEq] at ho
      subst ho
      clear hk
      simp only [List.take_succ_cons, List.take_zero, mks, putsL]
      refine makes_of (f := 24) (args := #[.int .i64 1, .int .i64 1]) ?_ (pt_any 1 1 v) (fun e u h => ⟨_, h.1, h.2, rfl⟩)
      simp [go_sem]
    · simp only [List.getElem?_cons_succ, List.getElem?_cons_zero, Option.some.injEq] at ho
      subst ho
      have e1 : U 1 = _ := hk 1 (by omega) (by kernel_rfl)
      clear hk
      simp only [List.take_succ_cons, List.take_zero, mks, putsL, e1]
      refine makes_val (x := .slice (some ⟨v.heap.size, 0, none⟩) 1 1) (u := v.alloc (.cells #[.int .i64 1, .int .i64 1] 29)) ?_ (below_al _ _) ⟨v.heap.size, rfl, lit_pts v [(1, 1)] #[.int .i64 1, .int .i64 1] rfl⟩
      simp [execOp, go_sem]
    · simp only [List.getElem?_cons_succ, List.getElem?_cons_zero, Option.some.injEq] at ho
      subst ho
      clear hk
      simp only [List.take_succ_cons, List.take_zero, mks, putsL]
      refine makes_val (x := .agg #[.int .i64 0, .int .i64 7, .int .i64 0, .int .i64 0]) (u := v) ?_ (Below.refl _ _) rfl
      simp [execOp, go_sem]
    · simp only [List.getElem?_cons_succ, List.getElem?_cons_zero, Option.some.injEq] at ho
      subst ho
      obtain ⟨g, e2, hp⟩ := hk 2 (by omega) (by kernel_rfl)
      have e3 : U 3 = _ := hk 3 (by omega) (by kernel_rfl)
      clear hk
      simp only [List.take_succ_cons, List.take_zero, mks, putsL, e2, e3]
      refine makes_val (x := .agg #[.int .i64 2, .int .i64 0, .int .i64 0, .int .i64 0, .int .i64 0, .slice (some ⟨g, 0, none⟩) 1 1, .int .i64 0, .int .i64 7, .int .i64 0, .int .i64 0]) (u := v) ?_ (Below.refl _ _) ⟨g, rfl, hp⟩
      simp [execOp, go_sem]
    · simp only [List.getElem?_cons_succ, List.getElem?_cons_zero, Option.some.injEq] at ho
      subst ho
      obtain ⟨g, e4, hp⟩ := hk 4 (by omega) (by kernel_rfl)
      clear hk
      simp only [List.take_succ_cons, List.take_zero, mks, putsL, e4]
      refine makes_val (x := .slice (some ⟨v.heap.size, 0, none⟩) 1 1) (u := v.alloc (.cells #[.int .i64 2, .int .i64 0, .int .i64 0, .int .i64 0, .int .i64 0, .slice (some ⟨g, 0, none⟩) 1 1, .int .i64 0, .int .i64 7, .int .i64 0, .int .i64 0] 27)) ?_ (below_al _ _) ⟨v.heap.size, rfl, ?_⟩
      · simp [execOp, go_sem]
      · have := drs_one v ⟨2, 0, 0, 0, 0, [(1, 1)], 0, 7, 0, 0⟩ (some ⟨g, 0, none⟩) 1 hp
        exact this.le (by simp)
    · simp only [List.getElem?_cons_succ, List.getElem?_cons_zero, Option.some.injEq] at ho
      subst ho
      have e0 : U 0 = _ := hk 0 (by omega) (by kernel_rfl)
      obtain ⟨g, e5, hp⟩ := hk 5 (by omega) (by kernel_rfl)
      clear hk
      simp only [List.take_succ_cons, List.take_zero, mks, putsL, e0, e5]
      refine makes_of (f := 21) (args := #[.agg #[.int .i64 3, .int .i64 2, .slice (ad 0) 6 (cp 0), .int .i64 3, .int .i64 2, .slice (ad 1) 6 (cp 1), .int .i64 3, .int .i64 2, .slice (ad 2) 6 (cp 2), .int .i64 3, .int .i64 2, .slice (ad 3) 6 (cp 3)], .slice (some ⟨g, 0, none⟩) 1 1]) ?_ (over_ex ad cp _ 1 v (HN3.out.later hv) hp) (fun e u h => ?_)
      · simp [go_sem]
      · obtain ⟨ad', cp', he, h2, h3⟩ := h
        exact ⟨_, he, h3, ad', cp', rfl, h2⟩
    · simp only [List.getElem?_cons_succ, List.getElem?_cons_zero, Option.some.injEq] at ho
      subst ho
      obtain ⟨ad', cp', e6, hp⟩ := hk 6 (by omega) (by kernel_rfl)
      clear hk
      simp only [List.take_succ_cons, List.take_zero, mks, putsL, e6]
      refine makes_val (x := .tuple #[.agg #[.int .i64 3, .int .i64 2, .slice (ad' 0) 6 (cp' 0), .int .i64 3, .int .i64 2, .slice (ad' 1) 6 (cp' 1), .int .i64 3, .int .i64 2, .slice (ad' 2) 6 (cp' 2), .int .i64 3, .int .i64 2, .slice (ad' 3) 6 (cp' 3)], .int .i64 0]) (u := v) ?_ (Below.refl _ _) ⟨ad', cp', rfl, hp⟩
      simp [execOp, go_sem]
    · obtain ⟨ad', cp', e7, hp⟩ := hk 7 (by omega) (by kernel_rfl)
      have key : ∀ A : Act, A.eval (.tmp 12) = .tuple #[.agg #[.int .i64 3, .int .i64 2, .slice (ad' 0) 6 (cp' 0), .int .i64 3, .int .i64 2, .slice (ad' 1) 6 (cp' 1), .int .i64 3, .int .i64 2, .slice (ad' 2) 6 (cp' 2), .int .i64 3, .int .i64 2, .slice (ad' 3) 6 (cp' 3)], .int .i64 0] → makesUpon Try.prog (RA ad cp v3.heap.size 8) v ((execOp A.eval oo).run Try.prog v) := fun A hA => by
        rw [← Option.some.inj ho]
        refine makes_val (x := .agg #[.int .i64 3, .int .i64 2, .slice (ad' 0) 6 (cp' 0), .int .i64 3, .int .i64 2, .slice (ad' 1) 6 (cp' 1), .int .i64 3, .int .i64 2, .slice (ad' 2) 6 (cp' 2), .int .i64 3, .int .i64 2, .slice (ad' 3) 6 (cp' 3)]) (u := v) ?_ (Below.refl _ _) ⟨ad', cp', rfl, hp⟩
        simp only [execOp, hA]
        simp [go_sem]
      clear hk ho
      simp only [List.take_succ_cons, List.take_zero, mks, putsL, e7]
      exact key _ (eval_same (by simp [put_size]))
    · obtain ⟨ad', cp', e7, hp⟩ := hk 7 (by omega) (by kernel_rfl)
      have key : ∀ A : Act, A.eval (.tmp 12) = .tuple #[.agg #[.int .i64 3, .int .i64 2, .slice (ad' 0) 6 (cp' 0), .int .i64 3, .int .i64 2, .slice (ad' 1) 6 (cp' 1), .int .i64 3, .int .i64 2, .slice (ad' 2) 6 (cp' 2), .int .i64 3, .int .i64 2, .slice (ad' 3) 6 (cp' 3)], .int .i64 0] → makesUpon Try.prog (RA ad cp v3.heap.size 9) v ((execOp A.eval oo).run Try.prog v) := fun A hA => by
        rw [← Option.some.inj ho]
        refine makes_val (x := .int .i64 0) (u := v) ?_ (Below.refl _ _) rfl
        simp only [execOp, hA]
        simp [go_sem]
      clear hk ho
      simp only [List.take_succ_cons, List.take_zero, mks, putsL, e7]
      exact key _ ((eval_other (by decide)).trans (eval_same (by simp [put_size])))
    · simp only [List.getElem?_cons_succ, List.getElem?_cons_zero, Option.some.injEq] at ho
      subst ho
      clear hk
      simp only [List.take_succ_cons, List.take_zero, mks, putsL]
      refine makes_val (x := .pointer (some ⟨v.heap.size, 0, none⟩)) (u := v.alloc (.cells #[.int .i64 0, .int .i64 0, .slice none 0 0, .int .i64 0, .int .i64 0, .slice none 0 0, .int .i64 0, .int .i64 0, .slice none 0 0, .int .i64 0, .int .i64 0, .slice none 0 0] 41)) ?_ (below_al _ _) ⟨v.heap.size, rfl, hv.size, heap_alloc_new v _⟩
      simp [execOp, go_sem]
  case hfin =>
    intro U u hb hR
    have e0 : U 0 = _ := hR 0 (by omega)
    have e1 : U 1 = _ := hR 1 (by omega)
    obtain ⟨g2, e2, -⟩ := hR 2 (by omega)
    have e3 : U 3 = _ := hR 3 (by omega)
    obtain ⟨g4, e4, -⟩ := hR 4 (by omega)
    obtain ⟨g5, e5, -⟩ := hR 5 (by omega)
    obtain ⟨a6, c6, e6, -⟩ := hR 6 (by omega)
    obtain ⟨a7, c7, e7, -⟩ := hR 7 (by omega)
    obtain ⟨ad', cp', e8, hN⟩ := hR 8 (by omega)
    have e9 : U 9 = _ := hR 9 (by omega)
    obtain ⟨g, e10, hg, hz⟩ := hR 10 (by omega)
    have hap := hN.apart hz (by decide)
    obtain ⟨hz1, hz2, -⟩ := z12_blk hz
    have Q4 := Lib.hid (laid12 (ad := ad') (cp := cp') hz1)
    have HN4 := Lib.hid ((((((((((((hN.set' hap 0 (.int .i64 3)).set' hap 1 (.int .i64 2)).set' hap 2 (.slice (ad' 0) 6 (cp' 0))).set' hap 3 (.int .i64 3)).set' hap 4 (.int .i64 2)).set' hap 5 (.slice (ad' 1) 6 (cp' 1))).set' hap 6 (.int .i64 3)).set' hap 7 (.int .i64 2)).set' hap 8 (.slice (ad' 2) 6 (cp' 2))).set' hap 9 (.int .i64 3)).set' hap 10 (.int .i64 2)).set' hap 11 (.slice (ad' 3) 6 (cp' 3)))
    have G4 := Lib.hid ((((((((((((hb.setCell (p := ⟨g, 0, none⟩) hg (.int .i64 3)).setCell (p := ⟨g, 1, none⟩) hg (.int .i64 2)).setCell (p := ⟨g, 2, none⟩) hg (.slice (ad' 0) 6 (cp' 0))).setCell (p := ⟨g, 3, none⟩) hg (.int .i64 3)).setCell (p := ⟨g, 4, none⟩) hg (.int .i64 2)).setCell (p := ⟨g, 5, none⟩) hg (.slice (ad' 1) 6 (cp' 1))).setCell (p := ⟨g, 6, none⟩) hg (.int .i64 3)).setCell (p := ⟨g, 7, none⟩) hg (.int .i64 2)).setCell (p := ⟨g, 8, none⟩) hg (.slice (ad' 2) 6 (cp' 2))).setCell (p := ⟨g, 9, none⟩) hg (.int .i64 3)).setCell (p := ⟨g, 10, none⟩) hg (.int .i64 2)).setCell (p := ⟨g, 11, none⟩) hg (.slice (ad' 3) 6 (cp' 3)))
    obtain ⟨h0, h1, h2, h3, h4, h5, h6, h7, h8, h9, h10, h11⟩ := hz1
    simp only [List.take_succ_cons, List.take_zero, List.drop_succ_cons, List.drop_zero, mks, putsL, e0, e1, e2, e3, e4, e5, e6, e7, e8, e9, e10]
    clear e0 e1 e2 e3 e4 e5 e6 e7 e8 e9 e10 hR hN hz hap hb hg
    go_upto_region 3 with fail
    have Q3b : Hid (Q12 ((((((((((((u.setCell ⟨g, 0, none⟩ (.int .i64 3)).setCell ⟨g, 1, none⟩ (.int .i64 2)).setCell ⟨g, 2, none⟩ (.slice (ad' 0) 6 (cp' 0))).setCell ⟨g, 3, none⟩ (.int .i64 3)).setCell ⟨g, 4, none⟩ (.int .i64 2)).setCell ⟨g, 5, none⟩ (.slice (ad' 1) 6 (cp' 1))).setCell ⟨g, 6, none⟩ (.int .i64 3)).setCell ⟨g, 7, none⟩ (.int .i64 2)).setCell ⟨g, 8, none⟩ (.slice (ad' 2) 6 (cp' 2))).setCell ⟨g, 9, none⟩ (.int .i64 3)).setCell ⟨g, 10, none⟩ (.int .i64 2)).setCell ⟨g, 11, none⟩ (.slice (ad' 3) 6 (cp' 3))) pb ad cp) := Lib.hid (Q3.out.later G4.out)
    have HN3b : Hid (Ns4 ((((((((((((u.setCell ⟨g, 0, none⟩ (.int .i64 3)).setCell ⟨g, 1, none⟩ (.int .i64 2)).setCell ⟨g, 2, none⟩ (.slice (ad' 0) 6 (cp' 0))).setCell ⟨g, 3, none⟩ (.int .i64 3)).setCell ⟨g, 4, none⟩ (.int .i64 2)).setCell ⟨g, 5, none⟩ (.slice (ad' 1) 6 (cp' 1))).setCell ⟨g, 6, none⟩ (.int .i64 3)).setCell ⟨g, 7, none⟩ (.int .i64 2)).setCell ⟨g, 8, none⟩ (.slice (ad' 2) 6 (cp' 2))).setCell ⟨g, 9, none⟩ (.int .i64 3)).setCell ⟨g, 10, none⟩ (.int .i64 2)).setCell ⟨g, 11, none⟩ (.slice (ad' 3) 6 (cp' 3))) ad exV1) := Lib.hid (HN3.out.later G4.out)
    have G5 := Lib.hid (below_on G3.out G4.out)
    clear Q3 HN3 G3 G4 h0 h1 h2 h3 h4 h5 h6 h7 h8 h9 h10 h11 hz2
    generalize ((((((((((((u.setCell ⟨g, 0, none⟩ (.int .i64 3)).setCell ⟨g, 1, none⟩ (.int .i64 2)).setCell ⟨g, 2, none⟩ (.slice (ad' 0) 6 (cp' 0))).setCell ⟨g, 3, none⟩ (.int .i64 3)).setCell ⟨g, 4, none⟩ (.int .i64 2)).setCell ⟨g, 5, none⟩ (.slice (ad' 1) 6 (cp' 1))).setCell ⟨g, 6, none⟩ (.int .i64 3)).setCell ⟨g, 7, none⟩ (.int .i64 2)).setCell ⟨g, 8, none⟩ (.slice (ad' 2) 6 (cp' 2))).setCell ⟨g, 9, none⟩ (.int .i64 3)).setCell ⟨g, 10, none⟩ (.int .i64 2)).setCell ⟨g, 11, none⟩ (.slice (ad' 3) 6 (cp' 3))) = w4 at *
    go_wp2_with fail
    refine (paint_no _).mono ?_
    rintro e w5 ⟨ad0, cp0, rfl, hb5⟩
    have Q6 := Lib.hid (Q3b.out.later hb5)
    have HN6 := Lib.hid (HN3b.out.later hb5)
    have R6 := Lib.hid (Q4.out.later hb5)
    have HM6 := Lib.hid (HN4.out.later hb5)
    have G6 := Lib.hid (below_on G5.out hb5)
    clear hb5 Q3b HN3b Q4 HN4 G5
    go_upto_region 4 with fail
    have bz := below_al w5 (.cells #[.int .i64 0, .int .i64 0, .slice (ad0 0) 0 (cp0 0), .int .i64 0, .int .i64 0, .slice (ad0 1) 0 (cp0 1), .int .i64 0, .int .i64 0, .slice (ad0 2) 0 (cp0 2), .int .i64 0, .int .i64 0, .slice (ad0 3) 0 (cp0 3)] 41)
    have Q7 := Lib.hid (Q6.out.later bz)
    have HN7 := Lib.hid (HN6.out.later bz)
    have R7 := Lib.hid (R6.out.later bz)
    have HM7 := Lib.hid (HM6.out.later bz)
    have G7 := Lib.hid (below_on G6.out bz)
    clear bz Q6 HN6 R6 HM6 G6
    generalize w5.alloc (.cells #[.int .i64 0, .int .i64 0, .slice (ad0 0) 0 (cp0 0), .int .i64 0, .int .i64 0, .slice (ad0 1) 0 (cp0 1), .int .i64 0, .int .i64 0, .slice (ad0 2) 0 (cp0 2), .int .i64 0, .int .i64 0, .slice (ad0 3) 0 (cp0 3)] 41) = w7 at *
    obtain ⟨b0, o0, f0, -, c0⟩ := HN7.out 0 (by omega) (by decide)
    obtain ⟨b3, o3, f3, -, c3⟩ := HN7.out 3 (by omega) (by decide)
    obtain ⟨d0, p0, g0, -, k0⟩ := HM7.out 0 (by omega) (by decide)
    obtain ⟨d1, p1, g1, -, k1⟩ := HM7.out 1 (by omega) (by decide)
    have y0 : w7.cell? ⟨b0, o0, none⟩ = some (.int .i64 10) := c0 0 (by decide)
    have y1 : w7.cell? ⟨b0, o0 + 1, none⟩ = some (.int .i64 0) := c0 1 (by decide)
    have y3 : w7.cell? ⟨b3, o3, none⟩ = some (.int .i64 50) := c3 0 (by decide)
    have z0 : w7.cell? ⟨d0, p0, none⟩ = some (.int .i64 10) := k0 0 (by decide)
    have z1 : w7.cell? ⟨d1, p1 + 4, none⟩ = some (.int .i64 7) := k1 4 (by decide)
    obtain ⟨h0, h1, h2, -, -, -, -, -, -, -, -, h11⟩ := Q7.out
    obtain ⟨-, -, r2, -, -, r5, -⟩ := R7.out
    rw [f0] at h2
    rw [f3] at h11
    rw [g0] at r2
    rw [g1] at r5
    clear c0 c3 k0 k1 f0 f3 g0 g1 HN7 HM7 Q7 R7
    go_wp2_with fail
    refine (pt_any _ _ _).mono ?_
    rintro e w8 ⟨rfl, hb⟩
    have G8 := Lib.hid (below_on G7.out hb)
    clear hb G7 h0 h1 h2 h11 r2 r5 y0 y1 y3 z0 z1
    go_wp2_with fail
    refine (pt_any _ _ _).mono ?_
    rintro e w9 ⟨rfl, hb⟩
    have G9 := Lib.hid (below_on G8.out hb)
    clear hb G8
    go_wp2_with fail
    refine (cells_ex1 _).mono ?_
    rintro e w10 ⟨a1, q1, rfl, hp, hb⟩
    have G10 := Lib.hid (below_on G9.out hb)
    have P10 := Lib.hid hp
    clear hp
    clear hb G9
    go_wp2_with fail
    refine (pt_any _ _ _).mono ?_
    rintro e w11 ⟨rfl, hb⟩
    have G11 := Lib.hid (below_on G10.out hb)
    have P11 := Lib.hid (P10.out.later hb)
    clear P10
    clear hb G10
    go_wp2_with fail
    refine (pt_any _ _ _).mono ?_
    rintro e w12 ⟨rfl, hb⟩
    have G12 := Lib.hid (below_on G11.out hb)
    have P12 := Lib.hid (P11.out.later hb)
    clear P11
    clear hb G11
    go_wp2_with fail
    refine (pt_any _ _ _).mono ?_
    rintro e w13 ⟨rfl, hb⟩
    have G13 := Lib.hid (below_on G12.out hb)
    have P13 := Lib.hid (P12.out.later hb)
    clear P12
    clear hb G12
    go_wp2_with fail
    refine (pt_any _ _ _).mono ?_
    rintro e w14 ⟨rfl, hb⟩
    have G14 := Lib.hid (below_on G13.out hb)
    have P14 := Lib.hid (P13.out.later hb)
    clear P13
    clear hb G13
    go_wp2_with fail
    refine (pt_any _ _ _).mono ?_
    rintro e w15 ⟨rfl, hb⟩
    have G15 := Lib.hid (below_on G14.out hb)
    have P15 := Lib.hid (P14.out.later hb)
    clear P14
    clear hb G14
    have SM := Lib.hid (same_ex1 a1 q1 w15 P15.out)
    clear P15
    go_wp2_with fail
    refine (SM.out).mono ?_
    rintro e w16 ⟨rfl, hb⟩
    have G16 := Lib.hid (below_on G15.out hb)
    clear SM
    clear hb G15
    go_wp2_with fail
    refine (pt_any _ _ _).mono ?_
    rintro e w17 ⟨rfl, hb⟩
    have G17 := Lib.hid (below_on G16.out hb)
    clear hb G16
    go_wp2_with fail
    refine (pt_any _ _ _).mono ?_
    rintro e w18 ⟨rfl, hb⟩
    have G18 := Lib.hid (below_on G17.out hb)
    clear hb G17
    go_wp2_with fail
    refine (cells_ex2 _).mono ?_
    rintro e w19 ⟨a2, q2, rfl, hp, hb⟩
    have G19 := Lib.hid (below_on G18.out hb)
    have P19 := Lib.hid hp
    clear hp
    clear hb G18
    go_wp2_with fail
    refine (pt_any _ _ _).mono ?_
    rintro e w20 ⟨rfl, hb⟩
    have G20 := Lib.hid (below_on G19.out hb)
    have P20 := Lib.hid (P19.out.later hb)
    clear P19
    clear hb G19
    go_wp2_with fail
    refine (pt_any _ _ _).mono ?_
    rintro e w21 ⟨rfl, hb⟩
    have G21 := Lib.hid (below_on G20.out hb)
    have P21 := Lib.hid (P20.out.later hb)
    clear P20
    clear hb G20
    go_wp2_with fail
    refine (pt_any _ _ _).mono ?_
    rintro e w22 ⟨rfl, hb⟩
    have G22 := Lib.hid (below_on G21.out hb)
    have P22 := Lib.hid (P21.out.later hb)
    clear P21
    clear hb G21
    have SM := Lib.hid (same_ex2 a2 q2 w22 P22.out)
    clear P22
    go_wp2_with fail
    refine (SM.out).mono ?_
    rintro e w23 ⟨rfl, hb⟩
    have G23 := Lib.hid (below_on G22.out hb)
    clear SM
    clear hb G22
    go_wp2_with fail
    refine (check_ex 3 1 _).mono ?_
    rintro e w24 ⟨rfl, hb⟩
    have G24 := Lib.hid (below_on G23.out hb)
    rw [ex_k1]
    clear hb G23
    go_wp2_with fail
    refine (check_ex 1 101 _).mono ?_
    rintro e w25 ⟨rfl, hb⟩
    have G25 := Lib.hid (below_on G24.out hb)
    rw [ex_k2]
    clear hb G24
    go_wp2_with fail
    refine (check_ex 0 0 _).mono ?_
    rintro e w26 ⟨rfl, hb⟩
    have G26 := Lib.hid (below_on G25.out hb)
    rw [ex_k3]
    clear hb G25
    go_wp2
    go_ret
    exact ⟨rfl, G26.out⟩
end Go.Proofs.Ytjclioakdmilmaa
