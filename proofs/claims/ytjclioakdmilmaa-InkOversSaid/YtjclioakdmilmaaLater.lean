/- Regions that draw their order and whose operations and callees leave all that was there as it was: one walk, in the order of the text, serves every order. -/
import Derived.Test.YtjclioakdmilmaaRows
import Derived.WalkKit
import Derived.Below
import Derived.BigQuiet
namespace Go.Proofs.Ytjclioakdmilmaa
open Go.RowKit
set_option linter.unusedVariables false
/-- a world that has only grown -/
def Later (w : World) : Type := { v : World // Below w.heap.size w v }
def Later.wd {w : World} (m : Later w) : World := m.1
instance laterSome (w : World) : Nonempty (Later w) := ⟨⟨w, Below.refl _ _⟩⟩
theorem Later.below {w : World} (m : Later w) : Below w.heap.size w m.wd := m.2
theorem Later.cell {w : World} (m : Later w) {p : Addr} {v : Value} (h : w.cell? p = some v) : m.wd.cell? p = some v := by
  rw [m.below.cell (World.block_lt_of_cell? w _ h)]; exact h
theorem Later.frozen {w : World} (m : Later w) {p : Addr} {v : Value} {f : Bool} (h : w.cell? p = some v) (hf : w.frozen? p = f) : m.wd.frozen? p = f := by
  rw [m.below.frozen (World.block_lt_of_cell? w _ h)]; exact hf
section
variable {P : Program}
theorem region_later {id : Nat} {Q : Exit → Act → World → Prop} {a : Act} {w : World} {l : List Oper} (hm : P.follows .mixedOrders = true) (hB : Region.lexB .any l.toArray = true)
    (h : wpQuiet P l.toArray (fun w' => ∃ m : Later w, w' = m.wd) (fun a' => ∀ w', (∃ m : Later w, w' = m.wd) → Q .normal a' w') l a) : (Code.region id l.toArray true).wp P Q a w :=
  wp_region_quiet (C := fun w' => ∃ m : Later w, w' = m.wd) hm hB ⟨⟨{ w with drawn := w.drawn + 1 }, ⟨rfl, rfl, rfl, Nat.le_refl _, fun _ _ => rfl⟩⟩, rfl⟩ (by simpa using h)
theorem later_of {w : World} {m : Later w} {f : FuncId} {args : Array Value} {v : Value} (h : Calls P f args m.wd fun e w' => e = .returned v ∧ Below m.wd.heap.size m.wd w') :
    Calls P f args m.wd fun e w' => e = .returned v ∧ ∃ k : Later w, w' = k.wd :=
  h.mono fun e w' ⟨he, hb⟩ => ⟨he, ⟨w', m.below.trans (hb.mono m.below.size)⟩, rfl⟩
theorem later_same {w : World} {m : Later w} {f : FuncId} {args : Array Value} {v : Value} (h : Calls P f args m.wd fun e w' => e = .returned v ∧ m.wd = w') :
    Calls P f args m.wd fun e w' => e = .returned v ∧ ∃ k : Later w, w' = k.wd :=
  later_of (h.mono fun e w' ⟨he, hb⟩ => ⟨he, by rw [← hb]; exact Below.refl _ _⟩)
theorem later_drew {w : World} {m : Later w} {f : FuncId} {args : Array Value} {v : Value} (h : Calls P f args m.wd fun e w' => e = .returned v ∧ ∃ n, w' = m.wd.drewN n) :
    Calls P f args m.wd fun e w' => e = .returned v ∧ ∃ k : Later w, w' = k.wd :=
  later_of (h.mono fun e w' ⟨he, n, hb⟩ => ⟨he, by rw [hb]; exact ⟨rfl, rfl, rfl, Nat.le_refl _, fun _ _ => rfl⟩⟩)
/-- what stands behind the region -/
theorem later_end {w : World} {Q : World → Prop} (h : ∀ m : Later w, Q m.wd) : ∀ w', (∃ m : Later w, w' = m.wd) → Q w' := by
  rintro _ ⟨m, rfl⟩; exact h m
end
end Go.Proofs.Ytjclioakdmilmaa
