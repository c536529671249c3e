/- Four plates as an argument: how they are opened to their numbers. -/
import Derived.Test.YtjclioakdmilmaaInkOpen
namespace Go.Proofs.Ytjclioakdmilmaa
open Go.ChangeShapes Go.WideShapes Go.ChangeAt Go.RowKit Go.Joins Go.Deep
open Num Ink
set_option linter.unusedVariables false
section
variable {H : Type} {enc : TypeId × Value → H}
theorem okWide_arr {P : Program} {w : World} {r : Reach} {base : Nat} {t e : TypeId} {n : Nat} {v : Value} (ht : P.underlying t = some (.array n e)) (h : Value.okWide P w r base t v) : ∃ cs, v = .agg cs ∧ cs.size = P.cellsOf t := by
  simp only [Value.okWide, ht] at h
  obtain ⟨cs, h1, h2, _⟩ := h
  exact ⟨cs, h1, h2⟩
def sel4 {α : Type} (a b c d : α) (i : Nat) : α := if i = 0 then a else if i = 1 then b else if i = 2 then c else d
theorem sel4_all {α : Type} {p : α → Prop} {a b c d : α} (ha : p a) (hb : p b) (hc : p c) (hd : p d) (i : Nat) : p (sel4 a b c d i) := by
  unfold sel4
  split
  · exact ha
  · split
    · exact hb
    · split
      · exact hc
      · exact hd
/-- the cells of a plate -/
theorem open_plate {W : World} {n : Nat} {cs : List Value} {x : DataW H × List MemPlace} (h : DataW.trod enc Try.prog W 0 (fun _ => true) true n 40 cs = some x) :
    ∃ (a b : Int) (l : List Int) (pa : Option Addr) (pc : Nat), cs = [.int .i64 a, .int .i64 b, .slice pa l.length pc] ∧ Ns W W.heap.size pa l ∧ I64 a ∧ I64 b ∧ l.length ≤ maxLen := by
  obtain ⟨xs, n2, -, -, hl, hxl, hg⟩ := DataW.trod_struct Try.underlying40 h
  rw [cells_pl] at hl
  match cs, hl with
  | [c0, c1, c2], _ =>
    match xs, hxl with
    | [y0, y1, y2], _ =>
      have h0 : DataW.trod enc Try.prog W 0 (fun _ => true) true n2 3 [c0] = some y0 := by simpa [cells_fi] using hg 0 _ rfl
      have h1 : DataW.trod enc Try.prog W 0 (fun _ => true) true n2 3 [c1] = some y1 := by simpa [cells_fi] using hg 1 _ rfl
      have h2 : DataW.trod enc Try.prog W 0 (fun _ => true) true n2 38 [c2] = some y2 := by simpa [cells_is] using hg 2 _ rfl
      obtain ⟨a, e0, -, wa⟩ := DataW.trod_int Try.underlying3 h0
      obtain ⟨b, e1, -, wb⟩ := DataW.trod_int Try.underlying3 h1
      obtain ⟨l, pa, pc, rfl, hp, hlm⟩ := open_nums h2
      simp at e0 e1
      subst e0 e1
      exact ⟨a, b, l, pa, pc, rfl, hp, bounds_i64 wa, bounds_i64 wb, hlm⟩
/-- four plates -/
theorem open_plates {W : World} {r : Reach} {b0 : Nat} {v : Value} {d : DataW H} {p : List MemPlace} (hv : Value.okWide Try.prog W r b0 41 v) (h : DataW.Trod enc Try.prog W 0 (fun _ => true) true 41 v d p) :
    ∃ (ws hs : Nat → Int) (ad : Nat → Option Addr) (cp : Nat → Nat) (vs : Nat → List Int), v = pl4 ws hs (fun i => .slice (ad i) (vs i).length (cp i)) ∧ Ns4 W ad vs ∧ (∀ i, i < 4 → I64 (ws i)) ∧ (∀ i, i < 4 → I64 (hs i)) ∧ (∀ i, i < 4 → (vs i).length ≤ maxLen) := by
  obtain ⟨cs, rfl, hsz⟩ := okWide_arr Try.underlying41 hv
  obtain ⟨l⟩ := cs
  match l, hsz.trans cells_p4 with
  | [c0, c1, c2, c3, c4, c5, c6, c7, c8, c9, c10, c11], _ =>
    obtain ⟨fuel, hf⟩ := h
    obtain ⟨xs, n2, -, -, -, hxl, hg⟩ := DataW.trod_array Try.underlying41 hf
    match xs, hxl with
    | [y0, y1, y2, y3], _ =>
      have h0 : DataW.trod enc Try.prog W 0 (fun _ => true) true n2 40 [c0, c1, c2] = some y0 := by simpa [cells_pl, Value.cells] using hg 0 (by omega)
      have h1 : DataW.trod enc Try.prog W 0 (fun _ => true) true n2 40 [c3, c4, c5] = some y1 := by simpa [cells_pl, Value.cells] using hg 1 (by omega)
      have h2 : DataW.trod enc Try.prog W 0 (fun _ => true) true n2 40 [c6, c7, c8] = some y2 := by simpa [cells_pl, Value.cells] using hg 2 (by omega)
      have h3 : DataW.trod enc Try.prog W 0 (fun _ => true) true n2 40 [c9, c10, c11] = some y3 := by simpa [cells_pl, Value.cells] using hg 3 (by omega)
      obtain ⟨w0, k0, l0, a0, p0, e0, n0, i0, j0, m0⟩ := open_plate h0
      obtain ⟨w1, k1, l1, a1, p1, e1, n1, i1, j1, m1⟩ := open_plate h1
      obtain ⟨w2, k2, l2, a2, p2, e2, n2, i2, j2, m2⟩ := open_plate h2
      obtain ⟨w3, k3, l3, a3, p3, e3, n3, i3, j3, m3⟩ := open_plate h3
      simp at e0 e1 e2 e3
      obtain ⟨rfl, rfl, rfl⟩ := e0
      obtain ⟨rfl, rfl, rfl⟩ := e1
      obtain ⟨rfl, rfl, rfl⟩ := e2
      obtain ⟨rfl, rfl, rfl⟩ := e3
      refine ⟨sel4 w0 w1 w2 w3, sel4 k0 k1 k2 k3, sel4 a0 a1 a2 a3, sel4 p0 p1 p2 p3, sel4 l0 l1 l2 l3, rfl, fun i hi => ?_, fun i _ => sel4_all i0 i1 i2 i3 i, fun i _ => sel4_all j0 j1 j2 j3 i, fun i _ => sel4_all (p := fun (l : List Int) => l.length ≤ maxLen) m0 m1 m2 m3 i⟩
      obtain rfl | rfl | rfl | rfl : i = 0 ∨ i = 1 ∨ i = 2 ∨ i = 3 := by omega
      · exact n0
      · exact n1
      · exact n2
      · exact n3
end
end Go.Proofs.Ytjclioakdmilmaa
