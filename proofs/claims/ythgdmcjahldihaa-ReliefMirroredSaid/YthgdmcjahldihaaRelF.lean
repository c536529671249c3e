/- A plate that a call builds: a block of three cells and the row of its shades. -/
import Derived.Test.YthgdmcjahldihaaRelE
import Derived.Laws.AppendOwn
import Derived.Below
import Derived.OneCell
namespace Go.Proofs.Ythgdmcjahldihaa
open Go.RowKit
set_option linter.unusedVariables false

/-- the plate in block P, behind all that W0 has below P: its sizes, and the list of its shades -/
def PlateAt (P : Nat) (W0 wr : World) (p q : Int) (a : Option Addr) (cap : Nat) (l : List Int) : Prop :=
  Below P W0 wr ∧ wr.heap[P]? = some (.cells #[.int .i64 p, .int .i64 q, .slice a l.length cap] 36 (0, 0)) ∧
  wr.ownsRow (P + 1) 3 1 (.slice a l.length cap) l.length (l.map (Value.int .i64))

theorem PlateAt.size {P : Nat} {W0 wr : World} {p q : Int} {a : Option Addr} {cap : Nat} {l : List Int} (h : PlateAt P W0 wr p q a cap l) : P + 1 ≤ wr.heap.size :=
  (Array.getElem?_eq_some_iff.1 h.2.1).1
theorem PlateAt.old {P : Nat} {W0 wr : World} {p q : Int} {a : Option Addr} {cap : Nat} {l : List Int} (h : PlateAt P W0 wr p q a cap l) :
    (∀ b o, b < P → wr.cell? ⟨b, o, none⟩ = W0.cell? ⟨b, o, none⟩) ∧ (∀ b o, b < P → wr.frozen? ⟨b, o, none⟩ = W0.frozen? ⟨b, o, none⟩) :=
  ⟨fun b o hb => h.1.cell (p := ⟨b, o, none⟩) hb, fun b o hb => h.1.frozen (p := ⟨b, o, none⟩) hb⟩
theorem PlateAt.cells {P : Nat} {W0 wr : World} {p q : Int} {a : Option Addr} {cap : Nat} {l : List Int} (h : PlateAt P W0 wr p q a cap l) :
    wr.cell? ⟨P, 0, none⟩ = some (.int .i64 p) ∧ wr.cell? ⟨P, 1, none⟩ = some (.int .i64 q) ∧ wr.cell? ⟨P, 2, none⟩ = some (.slice a l.length cap) := by
  refine ⟨?_, ?_, ?_⟩ <;> simp [World.cell?, h.2.1]
theorem PlateAt.free {P : Nat} {W0 wr : World} {p q : Int} {a : Option Addr} {cap : Nat} {l : List Int} (h : PlateAt P W0 wr p q a cap l) (o : Nat) :
    wr.frozen? ⟨P, o, none⟩ = false := by simp [World.frozen?, h.2.1]
theorem three_setCell {w : World} {b : Nat} {v0 v1 v2 u : Value} {t : TypeId} (h : w.heap[b]? = some (.cells #[v0, v1, v2] t (0, 0))) :
    (w.setCell ⟨b, 0, none⟩ u).heap[b]? = some (.cells #[u, v1, v2] t (0, 0)) ∧ (w.setCell ⟨b, 1, none⟩ u).heap[b]? = some (.cells #[v0, u, v2] t (0, 0)) ∧ (w.setCell ⟨b, 2, none⟩ u).heap[b]? = some (.cells #[v0, v1, u] t (0, 0)) := by
  have hlt := lt_of_block h
  have h' : w.heap[b] = .cells #[v0, v1, v2] t (0, 0) := by simpa [Array.getElem?_eq_getElem hlt] using h
  refine ⟨?_, ?_, ?_⟩
  all_goals
    show (w.heap.modify b _)[b]? = _
    rw [Array.getElem?_eq_getElem (by simpa using hlt), Array.getElem_modify_self, h']
    rfl
theorem below_grown {w w' : World} (h : Below w.heap.size w w') : w.grownBy w' none := ⟨h.os, h.tape, h.output, h.size, fun k hk _ => h.block k hk⟩
theorem PlateAt.later {P : Nat} {W0 wr w2 : World} {p q : Int} {a : Option Addr} {cap : Nat} {l : List Int} (h : PlateAt P W0 wr p q a cap l) (hb : Below wr.heap.size wr w2) : PlateAt P W0 w2 p q a cap l :=
  ⟨h.1.trans (hb.mono (by have := h.size; omega)), (hb.block _ (by have := h.size; omega)).trans h.2.1, h.2.2.kept (below_grown hb) (by cases hv : Value.ownBlock (.slice a l.length cap) <;> simp)⟩
theorem own_some {w : World} {base e n : Nat} {v : Value} {xs : List Value} (h : w.ownsRow base e 1 v n xs) (hn : n ≠ 0) : ∃ g cap, v = .slice (some ⟨g, 0, none⟩) n cap ∧ base ≤ g ∧ g < w.heap.size := by
  rcases h.2 with ⟨-, h0⟩ | ⟨g, cap, cur, hv, hb, hg, -⟩
  · exact absurd h0 hn
  · exact ⟨g, cap, hv, hb, (Array.getElem?_eq_some_iff.1 hg).1⟩
/-- an append to the list, and its store into the plate -/
theorem PlateAt.append {P : Nat} {W0 wr w1 : World} {p q s : Int} {a : Option Addr} {cap : Nat} {l : List Int} {o : Obj} {v' : Value} (h : PlateAt P W0 wr p q a cap l)
    (hown : w1.ownsRow (P + 1) 3 1 v' (l.length + 1) (l.map (Value.int .i64) ++ [.int .i64 s])) (hg : (wr.alloc o).grownBy w1 (Value.ownBlock (.slice a l.length cap))) :
    ∃ a' cap', v' = .slice a' (l.length + 1) cap' ∧ PlateAt P W0 (w1.setCell ⟨P, 2, none⟩ v') p q a' cap' (l ++ [s]) ∧ w1.frozen? ⟨P, 2, none⟩ = false ∧ P < w1.heap.size ∧ w1.cell? ⟨P, 2, none⟩ = some (.slice a l.length cap) := by
  obtain ⟨g, cap', rfl, hb, hl⟩ := own_some hown (by omega)
  have hs := h.size
  have hlt := h.2.2.lt
  have hne : some P ≠ Value.ownBlock (.slice a l.length cap) := fun e => by have := (hlt _ e.symm).1; omega
  have hgs := hg.size
  simp at hgs
  have hblk : w1.heap[P]? = some (.cells #[.int .i64 p, .int .i64 q, .slice a l.length cap] 36 (0, 0)) := by
    rw [hg.block P (by simp; omega) hne, Below.heap_alloc _ _ _ (by omega)]; exact h.2.1
  refine ⟨some ⟨g, 0, none⟩, cap', rfl, ⟨?_, ?_, ?_⟩, by simp [World.frozen?, hblk], by omega, by simp [World.cell?, hblk]⟩
  · refine Below.setCell ?_ (p := ⟨P, 2, none⟩) (Nat.le_refl _) _
    refine Below.grown (h.1.alloc (by omega) o) hg (by simp; omega) fun k hk => ?_
    have h2 := (hlt k hk).1; show P ≤ k; omega
  · have := (three_setCell (u := .slice (some ⟨g, 0, none⟩) (l.length + 1) cap') hblk).2.2
    simpa using this
  · have := ownsRow_setCell_below hown (a := ⟨P, 2, none⟩) (by simp) (.slice (some ⟨g, 0, none⟩) (l.length + 1) cap')
    simpa using this
/-- the list can be read -/
theorem PlateAt.ints {P : Nat} {W0 wr : World} {p q : Int} {a : Option Addr} {cap : Nat} {l : List Int} (h : PlateAt P W0 wr p q a cap l) (f : Nat → Int) (hf : ∀ j, j < l.length → l[j]? = some (f j)) : Ints wr wr.heap.size a l.length f := fun hn => by
  rcases h.2.2.2 with ⟨-, h0⟩ | ⟨g, cap', cur, hv, hb, hg, hcap, hm, hcs, htk⟩
  · omega
  · have ha : a = some ⟨g, 0, none⟩ := by simp at hv; exact hv.1
    refine ⟨g, 0, ha, (Array.getElem?_eq_some_iff.1 hg).1, fun j hj => ?_⟩
    have hc := h.2.2.cells (g := g) (by rw [ha]; rfl) j (.int .i64 (f j)) (by simp [hf j hj])
    have e : (⟨g, 0, none⟩ : Addr).add j = ⟨g, 0 + j, none⟩ := by unfold Addr.add; split <;> simp_all
    rwa [e] at hc
theorem plate_new (w : World) (o : Obj) (cs : Array Value) (t : TypeId) : ((w.alloc o).alloc (.cells cs t)).heap[w.heap.size + 1]? = some (.cells cs t (0, 0)) := by
  have := heap_alloc_new (w.alloc o) (.cells cs t)
  simpa using this
/-- the three stores of a whole plate -/
theorem plate_store {w : World} {P : Nat} {v0 v1 v2 u0 u1 u2 : Value} {t : TypeId} (h : w.heap[P]? = some (.cells #[v0, v1, v2] t (0, 0))) :
    (((w.setCell ⟨P, 0, none⟩ u0).setCell ⟨P, 1, none⟩ u1).setCell ⟨P, 2, none⟩ u2).heap[P]? = some (.cells #[u0, u1, u2] t (0, 0)) :=
  (three_setCell (three_setCell (three_setCell h).1).2.1).2.2
theorem below_plate {B P : Nat} {w w' : World} (h : Below B w w') (hB : B ≤ P) (u0 u1 u2 : Value) : Below B w (((w'.setCell ⟨P, 0, none⟩ u0).setCell ⟨P, 1, none⟩ u1).setCell ⟨P, 2, none⟩ u2) :=
  ((h.setCell (p := ⟨P, 0, none⟩) hB _).setCell (p := ⟨P, 1, none⟩) hB _).setCell (p := ⟨P, 2, none⟩) hB _
theorem block_cells {w : World} {P : Nat} {u0 u1 u2 : Value} {t : TypeId} (h : w.heap[P]? = some (.cells #[u0, u1, u2] t (0, 0))) :
    (w.cell? ⟨P, 0, none⟩ = some u0 ∧ w.cell? ⟨P, 1, none⟩ = some u1 ∧ w.cell? ⟨P, 2, none⟩ = some u2) ∧ (w.frozen? ⟨P, 0, none⟩ = false ∧ w.frozen? ⟨P, 1, none⟩ = false ∧ w.frozen? ⟨P, 2, none⟩ = false) := by
  refine ⟨⟨?_, ?_, ?_⟩, ?_, ?_, ?_⟩ <;> simp [World.cell?, World.frozen?, h]
theorem PlateAt.restore {P : Nat} {W0 wr : World} {p q : Int} {a : Option Addr} {cap : Nat} {l : List Int} (h : PlateAt P W0 wr p q a cap l) :
    PlateAt P W0 (((wr.setCell ⟨P, 0, none⟩ (.int .i64 p)).setCell ⟨P, 1, none⟩ (.int .i64 q)).setCell ⟨P, 2, none⟩ (.slice a l.length cap)) p q a cap l :=
  ⟨below_plate h.1 (Nat.le_refl _) _ _ _, plate_store h.2.1, ownsRow_setCell_below (ownsRow_setCell_below (ownsRow_setCell_below h.2.2 (a := ⟨P, 0, none⟩) (by simp) _) (a := ⟨P, 1, none⟩) (by simp) _) (a := ⟨P, 2, none⟩) (by simp) _⟩
/-- the first t shades lie in the plate -/
def AllRel (P : Nat) (W0 : World) (p q : Int) (f : Nat → Int) (t : Nat) (wr : World) : Prop :=
  ∃ a cap l, l.length = t ∧ (∀ j, j < t → l[j]? = some (f j)) ∧ PlateAt P W0 wr p q a cap l
theorem AllRel.snoc {P : Nat} {W0 wr : World} {p q s : Int} {f : Nat → Int} {t : Nat} {a : Option Addr} {cap : Nat} {l : List Int} (hl : l.length = t) (hj : ∀ j, j < t → l[j]? = some (f j)) (hs : f t = s) (h : PlateAt P W0 wr p q a cap (l ++ [s])) :
    AllRel P W0 p q f (t + 1) wr := by
  refine ⟨a, cap, l ++ [s], by simp [hl], fun j hjt => ?_, h⟩
  by_cases e : j < t
  · rw [List.getElem?_append_left (by omega)]; exact hj j e
  · obtain rfl : j = t := by omega
    rw [List.getElem?_append_right (by omega), hl, hs]; simp
end Go.Proofs.Ythgdmcjahldihaa
