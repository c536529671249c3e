/- The contracts of Path's two closures: a point is added, a part is finished. -/
import Derived.Test.YtpdiojndfckmfaaCutD
import Derived.Laws.AppendOwn
import Derived.Laws.OwnMore
import Derived.Below
import Derived.OneCell
namespace Go.Proofs.Ytpdiojndfckmfaa
open Go.RowKit
open Num Geo Cut
set_option linter.unusedVariables false
theorem Try.infoPt : (Try.prog.info? 23).map (fun i => (i.zero, i.size, i.bytes)) = some (some (.agg #[.int .i64 0, .int .i64 0]), 2, 16) := by kernel_rfl
theorem Try.infoPs : (Try.prog.info? 45).map (fun i => (i.zero, i.size, i.bytes)) = some (some (.slice none 0 0), 1, 24) := by kernel_rfl
/-- the cells of a list of points -/
def pcs (l : List (Int × Int)) : List Value := l.flatMap fun p => [.int .i64 p.1, .int .i64 p.2]
theorem pcs_len (l : List (Int × Int)) : (pcs l).length = l.length * 2 := by
  induction l with
  | nil => rfl
  | cons p l ih => simp [pcs] at ih ⊢; omega
theorem pcs_snoc (l : List (Int × Int)) (p : Int × Int) : pcs (l ++ [p]) = pcs l ++ [.int .i64 p.1, .int .i64 p.2] := by simp [pcs]
theorem below_grown' {w w' : World} (h : Below w.heap.size w w') : w.grownBy w' none := ⟨h.os, h.tape, h.output, h.size, fun k hk _ => h.block k hk⟩
theorem own_on {w w' : World} {base : Nat} {v : Value} {n : Nat} {xs : List Value} {e : TypeId} {s : Nat} (h : w.ownsRow base e s v n xs) (hb : Below w.heap.size w w') : w'.ownsRow base e s v n xs :=
  h.kept (below_grown' hb) (by cases hv : v.ownBlock <;> simp)
theorem own_slice {w : World} {base : Nat} {v : Value} {n : Nat} {xs : List Value} {e : TypeId} {s : Nat} (h : w.ownsRow base e s v n xs) : ∃ a cap, v = .slice a n cap := by
  rcases h.2 with ⟨h1, h2⟩ | ⟨g, cap, cur, h1, -⟩
  · subst h2; exact ⟨_, _, h1⟩
  · exact ⟨_, _, h1⟩
theorem own_some {w : World} {base : Nat} {v : Value} {n : Nat} {xs : List Value} {e : TypeId} {s : Nat} (h : w.ownsRow base e s v n xs) (hn : 0 < n) : ∃ g cap, v = .slice (some ⟨g, 0, none⟩) n cap ∧ base ≤ g ∧ g < w.heap.size := by
  rcases h.2 with ⟨h1, h2⟩ | ⟨g, cap, cur, h1, h2, h3, -⟩
  · omega
  · exact ⟨g, cap, h1, h2, lt_of_block h3⟩
/-- rows of two types lie in two blocks -/
theorem own_ne {w : World} {b1 b2 : Nat} {v1 v2 : Value} {n1 n2 : Nat} {x1 x2 : List Value} {e1 e2 : TypeId} {s1 s2 : Nat} (h1 : w.ownsRow b1 e1 s1 v1 n1 x1) (h2 : w.ownsRow b2 e2 s2 v2 n2 x2) (he : e1 ≠ e2) : v1.ownBlock = none ∨ v1.ownBlock ≠ v2.ownBlock := by
  rcases h1.2 with ⟨rfl, -⟩ | ⟨g, cap, cur, rfl, -, q1, -⟩
  · exact .inl rfl
  · rcases h2.2 with ⟨rfl, -⟩ | ⟨g', cap', cur', rfl, -, q2, -⟩
    · exact .inr (by simp [Value.ownBlock])
    · refine .inr fun h => ?_
      have : g = g' := by simpa [Value.ownBlock] using h
      subst this
      rw [q1] at q2
      simp at q2
      exact he q2.2
/-- the state of Path: the open part, the finished parts -/
def PS (v : World) (base kp kq : Nat) (part : List (Int × Int)) (fin : List (Value × List (Int × Int))) (va vo : Value) (pb : Nat) : Prop :=
  kp < base ∧ kq < base ∧ kp ≠ kq ∧ base ≤ pb ∧ pb ≤ v.heap.size ∧ v.heap[kp]? = some (.cells #[va] 45 (0, 0)) ∧ v.heap[kq]? = some (.cells #[vo] 46 (0, 0)) ∧
  v.ownsRow pb 23 2 va part.length (pcs part) ∧ v.ownsRow base 45 1 vo fin.length (fin.map (·.1)) ∧
  ∀ q ∈ fin, v.ownsRow base 23 2 q.1 q.2.length (pcs q.2) ∧ ∀ k, q.1.ownBlock = some k → k < pb
theorem PS.later {v u : World} {base kp kq : Nat} {part : List (Int × Int)} {fin : List (Value × List (Int × Int))} {va vo : Value} {pb : Nat} (h : PS v base kp kq part fin va vo pb) (hb : Below v.heap.size v u) : PS u base kp kq part fin va vo pb := by
  obtain ⟨h1, h2, h3, h4, h5, h6, h7, h8, h9, h10⟩ := h
  exact ⟨h1, h2, h3, h4, Nat.le_trans h5 hb.size, (hb.block _ (lt_of_block h6)).trans h6, (hb.block _ (lt_of_block h7)).trans h7, own_on h8 hb, own_on h9 hb, fun q hq => ⟨own_on (h10 q hq).1 hb, (h10 q hq).2⟩⟩
/-- a point is added to the open part -/
theorem PS.push {v u : World} {base kp kq : Nat} {part part' : List (Int × Int)} {fin : List (Value × List (Int × Int))} {va vo v' : Value} {pb : Nat} (h : PS v base kp kq part fin va vo pb)
    (hg : v.grownBy u va.ownBlock) (ho : u.ownsRow pb 23 2 v' part'.length (pcs part')) : PS (u.setCell ⟨kp, 0, none⟩ v') base kp kq part' fin v' vo pb := by
  obtain ⟨h1, h2, h3, h4, h5, h6, h7, h8, h9, h10⟩ := h
  have l6 := lt_of_block h6
  have l7 := lt_of_block h7
  have nb : ∀ k, k < pb → some k ≠ va.ownBlock := fun k hk e => by have := (h8.lt k e.symm).1; omega
  have s : (u.setCell ⟨kp, 0, none⟩ v').heap.size = u.heap.size := by simp
  refine ⟨h1, h2, h3, h4, by rw [s]; exact Nat.le_trans h5 hg.size, one_setCell ((hg.block kp l6 (nb kp (by omega))).trans h6), ?_, ownsRow_setCell_below ho (by show kp < pb; omega) _, ownsRow_setCell_below (h9.kept hg ?_) h1 _, fun q hq => ⟨ownsRow_setCell_below ((h10 q hq).1.kept hg ?_) h1 _, (h10 q hq).2⟩⟩
  · rw [Below.heap_setCell _ _ _ _ (by show kq ≠ kp; omega)]
    exact (hg.block kq l7 (nb kq (by omega))).trans h7
  · exact own_ne h9 h8 (by decide)
  · cases hb : q.1.ownBlock with
    | none => exact .inl rfl
    | some k => exact .inr (nb k ((h10 q hq).2 k hb))
/-- the open part is finished -/
theorem PS.done {v u : World} {base kp kq : Nat} {part : List (Int × Int)} {fin : List (Value × List (Int × Int))} {va vo v' : Value} {pb : Nat} (h : PS v base kp kq part fin va vo pb)
    (hg : v.grownBy u vo.ownBlock) (ho : u.ownsRow base 45 1 v' (fin.length + 1) (fin.map (·.1) ++ [va])) : PS ((u.setCell ⟨kq, 0, none⟩ v').setCell ⟨kp, 0, none⟩ (.slice none 0 0)) base kp kq [] (fin ++ [(va, part)]) (.slice none 0 0) v' u.heap.size := by
  obtain ⟨h1, h2, h3, h4, h5, h6, h7, h8, h9, h10⟩ := h
  have l6 := lt_of_block h6
  have l7 := lt_of_block h7
  have nb : ∀ k, k < base → some k ≠ vo.ownBlock := fun k hk e => by have := (h9.lt k e.symm).1; omega
  have s : ((u.setCell ⟨kq, 0, none⟩ v').setCell ⟨kp, 0, none⟩ (.slice none 0 0)).heap.size = u.heap.size := by simp
  refine ⟨h1, h2, h3, Nat.le_trans (Nat.le_trans h4 h5) hg.size, by rw [s]; exact Nat.le_refl _, ?_, ?_, World.ownsRow_nil _ _ _ _, ?_, fun q hq => ?_⟩
  · refine one_setCell (v := va) ?_
    rw [Below.heap_setCell _ _ _ _ (by show kp ≠ kq; omega)]
    exact (hg.block kp l6 (nb kp h1)).trans h6
  · rw [Below.heap_setCell _ _ _ _ (by show kq ≠ kp; omega)]
    exact one_setCell ((hg.block kq l7 (nb kq h2)).trans h7)
  · rw [List.map_append]
    have := ownsRow_setCell_below (ownsRow_setCell_below ho (a := ⟨kq, 0, none⟩) h2 v') (a := ⟨kp, 0, none⟩) h1 (.slice none 0 0)
    simpa using this
  · rw [List.mem_append] at hq
    rcases hq with hq | hq
    · refine ⟨ownsRow_setCell_below (ownsRow_setCell_below ((h10 q hq).1.kept hg (own_ne (h10 q hq).1 h9 (by decide))) h2 _) h1 _, fun k hk => ?_⟩
      have := ((h10 q hq).1.lt k hk).2
      have := hg.size
      omega
    · simp at hq
      subst hq
      have a1 : v.ownsRow base 23 2 va part.length (pcs part) := by
        refine ⟨h8.1, ?_⟩
        rcases h8.2 with g | ⟨g, cap, cur, g1, g2, g3⟩
        · exact .inl g
        · exact .inr ⟨g, cap, cur, g1, by omega, g3⟩
      refine ⟨ownsRow_setCell_below (ownsRow_setCell_below (a1.kept hg (own_ne a1 h9 (by decide))) h2 _) h1 _, fun k hk => ?_⟩
      have := (a1.lt k hk).2
      have := hg.size
      omega
/-- a part of one point or none is dropped -/
theorem PS.drop {v : World} {base kp kq : Nat} {part : List (Int × Int)} {fin : List (Value × List (Int × Int))} {va vo : Value} {pb : Nat} (h : PS v base kp kq part fin va vo pb) :
    PS (v.setCell ⟨kp, 0, none⟩ (.slice none 0 0)) base kp kq [] fin (.slice none 0 0) vo v.heap.size := by
  obtain ⟨h1, h2, h3, h4, h5, h6, h7, h8, h9, h10⟩ := h
  refine ⟨h1, h2, h3, Nat.le_trans h4 h5, by simp, one_setCell h6, ?_, World.ownsRow_nil _ _ _ _, ownsRow_setCell_below h9 h1 _, fun q hq => ⟨ownsRow_setCell_below (h10 q hq).1 h1 _, fun k hk => ((h10 q hq).1.lt k hk).2⟩⟩
  rw [Below.heap_setCell _ _ _ _ (by show kq ≠ kp; omega)]; exact h7
/-- what the closures leave -/
def PO (base kp kq : Nat) (part : List (Int × Int)) (fin : List (List (Int × Int))) (B : Nat) (w w' : World) : Prop := ∃ f va vo pb, f.map (·.2) = fin ∧ PS w' base kp kq part f va vo pb ∧ Below B w w'
end Go.Proofs.Ytpdiojndfckmfaa
