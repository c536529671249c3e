/- A grid that a call builds: a block of six cells and the row of its heights. -/
import Derived.Test.YthgdmcjahldihaaRelF
namespace Go.Proofs.Ythgdmcjahldihaa
open Go.RowKit
set_option linter.unusedVariables false

/-- a grid in block P, behind all that W0 has below P: its numbers, and the list of its heights -/
def GridAt (P : Nat) (W0 wr : World) (x y Wd Ht S : Int) (a : Option Addr) (cap : Nat) (l : List Int) : Prop :=
  Below P W0 wr ∧ wr.heap[P]? = some (.cells #[.int .i64 x, .int .i64 y, .int .i64 Wd, .int .i64 Ht, .int .i64 S, .slice a l.length cap] 26 (0, 0)) ∧
  wr.ownsRow (P + 1) 3 1 (.slice a l.length cap) l.length (l.map (Value.int .i64))

theorem GridAt.size {P : Nat} {W0 wr : World} {x y Wd Ht S : Int} {a : Option Addr} {cap : Nat} {l : List Int} (h : GridAt P W0 wr x y Wd Ht S a cap l) : P + 1 ≤ wr.heap.size :=
  (Array.getElem?_eq_some_iff.1 h.2.1).1
theorem GridAt.old {P : Nat} {W0 wr : World} {x y Wd Ht S : Int} {a : Option Addr} {cap : Nat} {l : List Int} (h : GridAt P W0 wr x y Wd Ht S a cap l) :
    (∀ b o, b < P → wr.cell? ⟨b, o, none⟩ = W0.cell? ⟨b, o, none⟩) ∧ (∀ b o, b < P → wr.frozen? ⟨b, o, none⟩ = W0.frozen? ⟨b, o, none⟩) :=
  ⟨fun b o hb => h.1.cell (p := ⟨b, o, none⟩) hb, fun b o hb => h.1.frozen (p := ⟨b, o, none⟩) hb⟩
theorem GridAt.cells {P : Nat} {W0 wr : World} {x y Wd Ht S : Int} {a : Option Addr} {cap : Nat} {l : List Int} (h : GridAt P W0 wr x y Wd Ht S a cap l) :
    wr.cell? ⟨P, 0, none⟩ = some (.int .i64 x) ∧ wr.cell? ⟨P, 1, none⟩ = some (.int .i64 y) ∧ wr.cell? ⟨P, 2, none⟩ = some (.int .i64 Wd) ∧ wr.cell? ⟨P, 3, none⟩ = some (.int .i64 Ht) ∧ wr.cell? ⟨P, 4, none⟩ = some (.int .i64 S) ∧ wr.cell? ⟨P, 5, none⟩ = some (.slice a l.length cap) := by
  refine ⟨?_, ?_, ?_, ?_, ?_, ?_⟩ <;> simp [World.cell?, h.2.1]
theorem GridAt.free {P : Nat} {W0 wr : World} {x y Wd Ht S : Int} {a : Option Addr} {cap : Nat} {l : List Int} (h : GridAt P W0 wr x y Wd Ht S a cap l) (o : Nat) :
    wr.frozen? ⟨P, o, none⟩ = false := by simp [World.frozen?, h.2.1]
theorem six_setCell {w : World} {b : Nat} {v0 v1 v2 v3 v4 v5 u : Value} {t : TypeId} (h : w.heap[b]? = some (.cells #[v0, v1, v2, v3, v4, v5] t (0, 0))) :
    (w.setCell ⟨b, 5, none⟩ u).heap[b]? = some (.cells #[v0, v1, v2, v3, v4, u] t (0, 0)) := by
  have hlt := lt_of_block h
  have h' : w.heap[b] = .cells #[v0, v1, v2, v3, v4, v5] t (0, 0) := by simpa [Array.getElem?_eq_getElem hlt] using h
  show (w.heap.modify b _)[b]? = _
  rw [Array.getElem?_eq_getElem (by simpa using hlt), Array.getElem_modify_self, h']
  rfl
theorem GridAt.later {P : Nat} {W0 wr w2 : World} {x y Wd Ht S : Int} {a : Option Addr} {cap : Nat} {l : List Int} (h : GridAt P W0 wr x y Wd Ht S a cap l) (hb : Below wr.heap.size wr w2) : GridAt P W0 w2 x y Wd Ht S a cap l :=
  ⟨h.1.trans (hb.mono (by have := h.size; omega)), (hb.block _ (by have := h.size; omega)).trans h.2.1, h.2.2.kept (below_grown hb) (by cases hv : Value.ownBlock (.slice a l.length cap) <;> simp)⟩
/-- an append to the list, and its store into the grid -/
theorem GridAt.append {P : Nat} {W0 wr w1 : World} {x y Wd Ht S s : Int} {a : Option Addr} {cap : Nat} {l : List Int} {o : Obj} {v' : Value} (h : GridAt P W0 wr x y Wd Ht S a cap l)
    (hown : w1.ownsRow (P + 1) 3 1 v' (l.length + 1) (l.map (Value.int .i64) ++ [.int .i64 s])) (hg : (wr.alloc o).grownBy w1 (Value.ownBlock (.slice a l.length cap))) :
    ∃ a' cap', v' = .slice a' (l.length + 1) cap' ∧ GridAt P W0 (w1.setCell ⟨P, 5, none⟩ v') x y Wd Ht S a' cap' (l ++ [s]) ∧ w1.frozen? ⟨P, 5, none⟩ = false ∧ P < w1.heap.size ∧ w1.cell? ⟨P, 5, none⟩ = some (.slice a l.length cap) := by
  obtain ⟨g, cap', rfl, hb, hl⟩ := own_some hown (by omega)
  have hs := h.size
  have hlt := h.2.2.lt
  have hne : some P ≠ Value.ownBlock (.slice a l.length cap) := fun e => by have := (hlt _ e.symm).1; omega
  have hgs := hg.size
  simp at hgs
  have hblk : w1.heap[P]? = some (.cells #[.int .i64 x, .int .i64 y, .int .i64 Wd, .int .i64 Ht, .int .i64 S, .slice a l.length cap] 26 (0, 0)) := by
    rw [hg.block P (by simp; omega) hne, Below.heap_alloc _ _ _ (by omega)]; exact h.2.1
  refine ⟨some ⟨g, 0, none⟩, cap', rfl, ⟨?_, ?_, ?_⟩, by simp [World.frozen?, hblk], by omega, by simp [World.cell?, hblk]⟩
  · refine Below.setCell ?_ (p := ⟨P, 5, none⟩) (Nat.le_refl _) _
    refine Below.grown (h.1.alloc (by omega) o) hg (by simp; omega) fun k hk => ?_
    have h2 := (hlt k hk).1; show P ≤ k; omega
  · have := six_setCell (u := .slice (some ⟨g, 0, none⟩) (l.length + 1) cap') hblk
    simpa using this
  · have := ownsRow_setCell_below hown (a := ⟨P, 5, none⟩) (by simp) (.slice (some ⟨g, 0, none⟩) (l.length + 1) cap')
    simpa using this
/-- the cell of the list behind an append -/
theorem GridAt.appendFree {P : Nat} {W0 wr w1 : World} {x y Wd Ht S : Int} {a : Option Addr} {cap : Nat} {l : List Int} {o : Obj} (h : GridAt P W0 wr x y Wd Ht S a cap l) (hg : (wr.alloc o).grownBy w1 (Value.ownBlock (.slice a l.length cap))) :
    w1.frozen? ⟨P, 5, none⟩ = false ∧ w1.cell? ⟨P, 5, none⟩ = some (.slice a l.length cap) := by
  have hs := h.size
  have hne : some P ≠ Value.ownBlock (.slice a l.length cap) := fun e => by have := (h.2.2.lt _ e.symm).1; omega
  have hblk : w1.heap[P]? = some (.cells #[.int .i64 x, .int .i64 y, .int .i64 Wd, .int .i64 Ht, .int .i64 S, .slice a l.length cap] 26 (0, 0)) := by
    rw [hg.block P (by simp; omega) hne, Below.heap_alloc _ _ _ (by omega)]; exact h.2.1
  exact ⟨by simp [World.frozen?, hblk], by simp [World.cell?, hblk]⟩
/-- the list can be read -/
theorem GridAt.ints {P : Nat} {W0 wr : World} {x y Wd Ht S : Int} {a : Option Addr} {cap : Nat} {l : List Int} (h : GridAt P W0 wr x y Wd Ht S a cap l) (f : Nat → Int) (hf : ∀ j, j < l.length → l[j]? = some (f j)) : Ints wr wr.heap.size a l.length f := fun hn => by
  rcases h.2.2.2 with ⟨-, h0⟩ | ⟨g, cap', cur, hv, hb, hg, hcap, hm, hcs, htk⟩
  · omega
  · have ha : a = some ⟨g, 0, none⟩ := by simp at hv; exact hv.1
    refine ⟨g, 0, ha, (Array.getElem?_eq_some_iff.1 hg).1, fun j hj => ?_⟩
    have hc := h.2.2.cells (g := g) (by rw [ha]; rfl) j (.int .i64 (f j)) (by simp [hf j hj])
    have e : (⟨g, 0, none⟩ : Addr).add j = ⟨g, 0 + j, none⟩ := by unfold Addr.add; split <;> simp_all
    rwa [e] at hc
/-- the first t heights lie in the grid -/
def GridRel (P : Nat) (W0 : World) (x y Wd Ht S : Int) (f : Nat → Int) (t : Nat) (wr : World) : Prop :=
  ∃ a cap l, l.length = t ∧ (∀ j, j < t → l[j]? = some (f j)) ∧ GridAt P W0 wr x y Wd Ht S a cap l
theorem GridRel.snoc {P : Nat} {W0 wr : World} {x y Wd Ht S s : Int} {f : Nat → Int} {t : Nat} {a : Option Addr} {cap : Nat} {l : List Int} (hl : l.length = t) (hj : ∀ j, j < t → l[j]? = some (f j)) (hs : f t = s) (h : GridAt P W0 wr x y Wd Ht S a cap (l ++ [s])) :
    GridRel P W0 x y Wd Ht S f (t + 1) wr := by
  refine ⟨a, cap, l ++ [s], by simp [hl], fun j hjt => ?_, h⟩
  by_cases e : j < t
  · rw [List.getElem?_append_left (by omega)]; exact hj j e
  · obtain rfl : j = t := by omega
    rw [List.getElem?_append_right (by omega), hl, hs]; simp
theorem GridAt.drew {P : Nat} {W0 wr : World} {x y Wd Ht S : Int} {a : Option Addr} {cap : Nat} {l : List Int} (h : GridAt P W0 wr x y Wd Ht S a cap l) : GridAt P W0 wr.drew x y Wd Ht S a cap l :=
  ⟨h.1.drew, h.2.1, h.2.2⟩
end Go.Proofs.Ythgdmcjahldihaa
