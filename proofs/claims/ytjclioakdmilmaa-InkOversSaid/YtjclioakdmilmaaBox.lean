/- Cells in a world that has only grown; boxes of two cells. -/
import Derived.Test.YtjclioakdmilmaaLater
namespace Go.Proofs.Ytjclioakdmilmaa
open Go.RowKit
set_option linter.unusedVariables false
theorem cell_on {W W' : World} {p : Addr} {v : Value} (h : W.cell? p = some v) (hb : Below W.heap.size W W') : W'.cell? p = some v := by
  rw [hb.cell (World.block_lt_of_cell? W _ h)]; exact h
theorem cell_al {W : World} {p : Addr} {v : Value} (h : W.cell? p = some v) (o : Obj) : (W.alloc o).cell? p = some v :=
  cell_on h ((Below.refl _ _).alloc (Nat.le_refl _) _)
theorem cell_lt {W : World} {b o : Nat} {v : Value} (h : W.cell? ⟨b, o, none⟩ = some v) : b < W.heap.size := World.block_lt_of_cell? W _ h
/-- a new box of two cells, later -/
theorem box2 {u v : World} {x y : Value} {t : TypeId} (hb : Below (u.alloc (.cells #[x, y] t)).heap.size (u.alloc (.cells #[x, y] t)) v) :
    v.cell? ⟨u.heap.size, 0, none⟩ = some x ∧ v.cell? ⟨u.heap.size, 1, none⟩ = some y := by
  constructor
  · exact cell_on (by simp) hb
  · exact cell_on (by simp) hb
theorem cell_new2 (u : World) {x y : Value} {t : TypeId} : (u.alloc (.cells #[x, y] t)).cell? ⟨u.heap.size, 0, none⟩ = some x ∧ (u.alloc (.cells #[x, y] t)).cell? ⟨u.heap.size, 1, none⟩ = some y := by
  constructor <;> simp
theorem below_al (w : World) (o : Obj) : Below w.heap.size w (w.alloc o) := (Below.refl _ _).alloc (Nat.le_refl _) _
theorem below_on {w a b : World} (h : Below w.heap.size w a) (hb : Below a.heap.size a b) : Below w.heap.size w b := h.trans (hb.mono h.size)
theorem below_dn {w a : World} (h : Below w.heap.size w a) (n : Nat) : Below w.heap.size w (a.drewN n) := h.trans ⟨rfl, rfl, rfl, Nat.le_refl _, fun _ _ => rfl⟩
/-- two new boxes of two cells, later -/
theorem boxes2 {u v : World} {a0 a1 b0 b1 : Value} {t s : TypeId} (hb : Below ((u.alloc (.cells #[a0, a1] t)).alloc (.cells #[b0, b1] s)).heap.size ((u.alloc (.cells #[a0, a1] t)).alloc (.cells #[b0, b1] s)) v) :
    v.cell? ⟨u.heap.size, 0, none⟩ = some a0 ∧ v.cell? ⟨u.heap.size, 1, none⟩ = some a1 ∧ v.cell? ⟨u.heap.size + 1, 0, none⟩ = some b0 ∧ v.cell? ⟨u.heap.size + 1, 1, none⟩ = some b1 := by
  have e : (u.alloc (.cells #[a0, a1] t)).heap.size = u.heap.size + 1 := by simp
  refine ⟨cell_on (cell_al (cell_new2 _).1 _) hb, cell_on (cell_al (cell_new2 _).2 _) hb, cell_on ?_ hb, cell_on ?_ hb⟩
  · rw [← e]; exact (cell_new2 _).1
  · rw [← e]; exact (cell_new2 _).2
end Go.Proofs.Ytjclioakdmilmaa
