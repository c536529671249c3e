/- Lists of points in memory; the contracts of ink.near and of the reference's SameCells. -/
import Derived.Test.YtjclioakdmilmaaBox
import Derived.Test.YtjclioakdmilmaaFreeL
import Derived.Test.YtjclioakdmilmaaInkPlain
import Derived.Test.YtjclioakdmilmaaNumA
import Derived.Laws.AppendOwn
import Derived.Laws.OwnMore
import Derived.Below
import Derived.OneCell
namespace Go.Proofs.Ytjclioakdmilmaa
open Go.RowKit
open Num Ink
set_option linter.unusedVariables false
def Pts (w : World) (B : Nat) (a : Option Addr) (l : List (Int × Int)) : Prop :=
  0 < l.length → ∃ b off, a = some ⟨b, off, none⟩ ∧ b < B ∧ ∀ j (h : j < l.length), w.cell? ⟨b, off + j * 2, none⟩ = some (.int .i64 l[j].1) ∧ w.cell? ⟨b, off + (j * 2 + 1), none⟩ = some (.int .i64 l[j].2)
theorem Pts.later {w w' : World} {a : Option Addr} {l : List (Int × Int)} (h : Pts w w.heap.size a l) (hb : Below w.heap.size w w') : Pts w' w'.heap.size a l := fun hn => by
  obtain ⟨b, off, e, hB, hc⟩ := h hn
  have hs := hb.size
  exact ⟨b, off, e, by omega, fun j hj => ⟨(hb.cell (p := ⟨b, off + j * 2, none⟩) hB).trans (hc j hj).1, (hb.cell (p := ⟨b, off + (j * 2 + 1), none⟩) hB).trans (hc j hj).2⟩⟩
def Bx (v : World) (b : Nat) (x y : Int) : Prop := v.cell? ⟨b, 0, none⟩ = some (.int .i64 x) ∧ v.cell? ⟨b, 1, none⟩ = some (.int .i64 y) ∧ ∀ o, v.frozen? ⟨b, o, none⟩ = false
theorem Bx.lt {v : World} {b : Nat} {x y : Int} (h : Bx v b x y) : b < v.heap.size := cell_lt h.1
theorem Bx.later {v u : World} {b : Nat} {x y : Int} (h : Bx v b x y) (hb : Below v.heap.size v u) : Bx u b x y :=
  ⟨cell_on h.1 hb, cell_on h.2.1 hb, fun o => (hb.frozen (p := ⟨b, o, none⟩) h.lt).trans (h.2.2 o)⟩
theorem Bx.new (u : World) (x y : Int) (t : TypeId) : Bx (u.alloc (.cells #[.int .i64 x, .int .i64 y] t)) u.heap.size x y :=
  ⟨(cell_new2 u).1, (cell_new2 u).2, fun o => by simp⟩
theorem Bx.same {v : World} {b : Nat} {x y : Int} (h : Bx v b x y) (x' y' : Int) : Bx ((v.setCell ⟨b, 0, none⟩ (.int .i64 x')).setCell ⟨b, 1, none⟩ (.int .i64 y')) b x' y' := by
  have n : (⟨b, 0, none⟩ : Addr) ≠ ⟨b, 1, none⟩ := by simp
  refine ⟨?_, ?_, fun o => by simp [h.2.2 o]⟩
  · rw [World.cell?_setCell_other _ _ _ _ n.symm]; exact World.cell?_setCell_same _ _ _ h.1
  · exact World.cell?_setCell_same _ _ _ (by rw [World.cell?_setCell_other _ _ _ _ n]; exact h.2.1)
theorem Bx.other {v : World} {b c o : Nat} {x y : Int} (h : Bx v b x y) (hn : b ≠ c) (z : Value) : Bx (v.setCell ⟨c, o, none⟩ z) b x y := by
  have n : ∀ i, (⟨c, o, none⟩ : Addr) ≠ ⟨b, i, none⟩ := by intro i hx; injection hx with h1 h2; exact hn h1.symm
  refine ⟨?_, ?_, fun o => by simp [h.2.2 o]⟩
  · rw [World.cell?_setCell_other _ _ _ _ (n 0)]; exact h.1
  · rw [World.cell?_setCell_other _ _ _ _ (n 1)]; exact h.2.1
theorem Try.infoPt : (Try.prog.info? 29).map (fun i => (i.zero, i.size, i.bytes)) = some (some (.agg #[.int .i64 0, .int .i64 0]), 2, 16) := by kernel_rfl
/-- the cells of a list of points -/
def pcs (l : List (Int × Int)) : List Value := l.flatMap fun p => [.int .i64 p.1, .int .i64 p.2]
theorem pcs_len (l : List (Int × Int)) : (pcs l).length = l.length * 2 := by
  induction l with
  | nil => rfl
  | cons p l ih => simp [pcs] at ih ⊢; omega
theorem pcs_snoc (l : List (Int × Int)) (p : Int × Int) : pcs (l ++ [p]) = pcs l ++ [.int .i64 p.1, .int .i64 p.2] := by simp [pcs]
theorem below_grown' {w w' : World} (h : Below w.heap.size w w') : w.grownBy w' none := ⟨h.os, h.tape, h.output, h.size, fun k hk _ => h.block k hk⟩
theorem own_on {w w' : World} {base : Nat} {v : Value} {n : Nat} {xs : List Value} {e : TypeId} {s : Nat} (h : w.ownsRow base e s v n xs) (hb : Below w.heap.size w w') : w'.ownsRow base e s v n xs :=
  h.kept (below_grown' hb) (by cases hv : v.ownBlock <;> simp)
theorem own_slice {w : World} {base : Nat} {v : Value} {n : Nat} {xs : List Value} {e : TypeId} {s : Nat} (h : w.ownsRow base e s v n xs) : ∃ a cap, v = .slice a n cap := by
  rcases h.2 with ⟨h1, h2⟩ | ⟨g, cap, cur, h1, -⟩
  · subst h2; exact ⟨_, _, h1⟩
  · exact ⟨_, _, h1⟩
theorem own_some {w : World} {base : Nat} {v : Value} {n : Nat} {xs : List Value} {e : TypeId} {s : Nat} (h : w.ownsRow base e s v n xs) (hn : 0 < n) : ∃ g cap, v = .slice (some ⟨g, 0, none⟩) n cap ∧ base ≤ g ∧ g < w.heap.size := by
  rcases h.2 with ⟨h1, h2⟩ | ⟨g, cap, cur, h1, h2, h3, -⟩
  · omega
  · exact ⟨g, cap, h1, h2, lt_of_block h3⟩
theorem pcs_get (l : List (Int × Int)) (j : Nat) (h : j < l.length) : (pcs l)[j * 2]? = some (.int .i64 l[j].1) ∧ (pcs l)[j * 2 + 1]? = some (.int .i64 l[j].2) := by
  induction l generalizing j with
  | nil => simp at h
  | cons p l ih =>
    have e : pcs (p :: l) = .int .i64 p.1 :: .int .i64 p.2 :: pcs l := by simp [pcs]
    rw [e]
    cases j with
    | zero => simp
    | succ j =>
      have := ih j (by simpa using h)
      rw [show (j + 1) * 2 = j * 2 + 1 + 1 by omega]
      simpa using this
theorem own_pts {w : World} {base : Nat} {a : Option Addr} {cap : Nat} {l : List (Int × Int)} (h : w.ownsRow base 29 2 (.slice a l.length cap) l.length (pcs l)) : Pts w w.heap.size a l := fun hn => by
  rcases h.2 with ⟨-, h0⟩ | ⟨g, cap', cur, hv, hb, hg, hcap, hm, hcs, htk⟩
  · omega
  · have ha : a = some ⟨g, 0, none⟩ := by simp at hv; exact hv.1
    refine ⟨g, 0, ha, lt_of_block hg, fun j hj => ?_⟩
    have hc1 := h.cells (g := g) (by rw [ha]; rfl) (j * 2) _ (pcs_get l j hj).1
    have hc2 := h.cells (g := g) (by rw [ha]; rfl) (j * 2 + 1) _ (pcs_get l j hj).2
    have e : ∀ i, (⟨g, 0, none⟩ : Addr).add i = ⟨g, 0 + i, none⟩ := fun i => by unfold Addr.add; split <;> simp_all
    rw [e] at hc1 hc2
    exact ⟨hc1, hc2⟩
theorem ret_bool' {a b : Bool} (h : a = b) : Ending.returned (.bool a) = .returned (.bool b) := by rw [h]
set_option maxHeartbeats 1000000 in
theorem near_any (x y : Int) (w : World) : Calls Try.prog 26 #[.agg #[.int .i64 x, .int .i64 y]] w fun e w' => e = .returned (.bool (nr x y)) ∧ Below w.heap.size w w' := by
  have HC := Lib.hid (nr_cases x y)
  generalize nr x y = b at *
  go_enter Try.func26, Try.ntmps26
  rcases HC.out with ⟨rfl, h1, h2, h3, h4⟩ | ⟨rfl, h1 | ⟨h1, h2⟩ | ⟨h1, h2, h3⟩ | ⟨h1, h2, h3, h4⟩⟩
  · have d1 : decide (-4096 ≤ x) = true := by simpa using h1
    have d2 : decide (x ≤ 4096) = true := by simpa using h2
    have d3 : decide (-4096 ≤ y) = true := by simpa using h3
    have d4 : decide (y ≤ 4096) = true := by simpa using h4
    go_wp2
    go_ret
    exact ⟨rfl, by go_grown⟩
  · have d1 : decide (-4096 ≤ x) = false := by simp; omega
    go_wp2
    go_ret
    exact ⟨rfl, by go_grown⟩
  · have d1 : decide (-4096 ≤ x) = true := by simpa using h1
    have d2 : decide (x ≤ 4096) = false := by simp; omega
    go_wp2
    go_ret
    exact ⟨rfl, by go_grown⟩
  · have d1 : decide (-4096 ≤ x) = true := by simpa using h1
    have d2 : decide (x ≤ 4096) = true := by simpa using h2
    have d3 : decide (-4096 ≤ y) = false := by simp; omega
    go_wp2
    go_ret
    exact ⟨rfl, by go_grown⟩
  · have d1 : decide (-4096 ≤ x) = true := by simpa using h1
    have d2 : decide (x ≤ 4096) = true := by simpa using h2
    have d3 : decide (-4096 ≤ y) = true := by simpa using h3
    have d4 : decide (y ≤ 4096) = false := by simp; omega
    go_wp2
    go_ret
    exact ⟨rfl, by go_grown⟩
set_option maxHeartbeats 2000000 in
theorem same_true (l : List (Int × Int)) (a1 a2 : Option Addr) (c1 c2 : Nat) (w : World) (hl : l.length ≤ 16384) (h1 : Pts w w.heap.size a1 l) (h2 : Pts w w.heap.size a2 l) :
    Calls Try.prog 11 #[.slice a1 l.length c1, .slice a2 l.length c2] w fun e w' => e = .returned (.bool true) ∧ Below w.heap.size w w' := by
  have HA := Lib.hid h1
  have HB := Lib.hid h2
  clear h1 h2
  go_enter Try.func11, Try.ntmps11
  go_wp2_with fail
  go_loopw [5] (fun i wr => ∃ k : Nat, k ≤ l.length ∧ i = .int .i64 k ∧ Hid (Below w.heap.size w wr)) (fun i _ => l.length - (intOf i).toNat)
  case atStart => exact ⟨0, by omega, rfl, Lib.hid (Below.refl _ _)⟩
  case round =>
    obtain ⟨k, hk, rfl, HW⟩ := hrel
    by_cases hlt : k < l.length
    · obtain ⟨b1, o1, rfl, hb1, hc1⟩ := (HA.out.later HW.out) (by omega)
      obtain ⟨b2, o2, rfl, hb2, hc2⟩ := (HB.out.later HW.out) (by omega)
      have u1 : wr.cell? ⟨b1, o1 + k * 2, none⟩ = some (.int .i64 l[k].1) := (hc1 k hlt).1
      have u2 : wr.cell? ⟨b1, o1 + k * 2 + 1, none⟩ = some (.int .i64 l[k].2) := (hc1 k hlt).2
      have u3 : wr.cell? ⟨b2, o2 + k * 2, none⟩ = some (.int .i64 l[k].1) := (hc2 k hlt).1
      have u4 : wr.cell? ⟨b2, o2 + k * 2 + 1, none⟩ = some (.int .i64 l[k].2) := (hc2 k hlt).2
      have q1 : (0 : Int) ≤ (k : Int) := by omega
      have q2 : (k : Int) < (l.length : Int) := by omega
      generalize l[k].1 = x at *
      generalize l[k].2 = y at *
      clear hc1 hc2 HA HB
      have L1 := fun m : Later wr => m.cell u1
      have L2 := fun m : Later wr => m.cell u2
      have L3 := fun m : Later wr => m.cell u3
      have L4 := fun m : Later wr => m.cell u4
      go_wp2_with fail
      refine region_later (by kernel_rfl) (by kernel_rfl) ?_
      (go_big_quiet_want; go_big_quiet_op; go_big_quiet_on)
      (go_big_quiet_want; go_big_quiet_op; go_big_quiet_on)
      (go_big_quiet_want; go_big_quiet_op; go_big_quiet_on)
      (go_big_quiet_want; go_big_quiet_op; go_big_quiet_on)
      (go_big_quiet_want; go_big_quiet_op; go_big_quiet_on)
      (go_big_quiet_want; go_big_quiet_op; go_big_quiet_on)
      (go_big_quiet_want; go_big_quiet_op; go_big_quiet_on)
      (go_big_quiet_want; go_big_quiet_op; go_big_quiet_on)
      (go_big_quiet_want; go_big_quiet_op; go_big_quiet_on)
      refine wpQuiet_nil ?_
      refine later_end ?_
      intro m
      have HW2 := Lib.hid (below_on HW.out m.below)
      clear L1 L2 L3 L4 u1 u2 u3 u4
      go_wp2
      go_roundw
      case rel => exact ⟨k + 1, by omega, by go_num, HW2⟩
      case measure => simp [intOf] <;> omega
    · go_wp2
      go_ret
      exact ⟨rfl, HW.out⟩
/-- the cells of a literal list of points -/
theorem lit_pts (v : World) (l : List (Int × Int)) (cs : Array Value) (hc : cs.toList = pcs l) : Pts (v.alloc (.cells cs 29)) (v.alloc (.cells cs 29)).heap.size (some ⟨v.heap.size, 0, none⟩) l := fun hn => by
  refine ⟨v.heap.size, 0, rfl, by simp, fun j hj => ?_⟩
  have h := pcs_get l j hj
  rw [← hc] at h
  have e : ∀ i, (v.alloc (.cells cs 29)).cell? ⟨v.heap.size, 0 + i, none⟩ = cs.toList[i]? := fun i => by rw [Array.getElem?_toList]; simp
  exact ⟨(e _).trans h.1, (e _).trans h.2⟩
end Go.Proofs.Ytjclioakdmilmaa
