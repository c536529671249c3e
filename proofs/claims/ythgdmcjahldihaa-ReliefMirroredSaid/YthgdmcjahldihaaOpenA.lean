/- A grid as an argument: how it is opened to its numbers, and that it reads the same in a world that has only grown. -/
import Derived.Test.YthgdmcjahldihaaTerA
import Derived.Below
import Derived.ChangeSame
import Derived.ProofKit
import Derived.OpenShut
import Derived.Lib.SmallJoins
import Derived.Deep.Slices
namespace Go.Proofs.Ythgdmcjahldihaa
open Go.ChangeShapes Go.WideShapes Go.ChangeAt Go.RowKit Go.Joins Go.Deep
set_option linter.unusedVariables false

theorem cells_h : Try.prog.cellsOf 26 = 6 := by kernel_rfl
theorem cells_p : Try.prog.cellsOf 23 = 2 := by kernel_rfl
theorem cells_i : Try.prog.cellsOf 3 = 1 := by kernel_rfl
theorem cells_s : Try.prog.cellsOf 24 = 1 := by kernel_rfl

section
variable {H : Type} {enc : TypeId × Value → H}
/-- two ints as a point -/
theorem open_point {W : World} {base : Nat} {spare : Nat → Bool} {held : Bool} {fuel : Nat} {c0 c1 : Value} {x : DataW H × List MemPlace} (h : DataW.trod enc Try.prog W base spare held fuel 23 [c0, c1] = some x) :
    ∃ a b : Int, c0 = .int .i64 a ∧ c1 = .int .i64 b ∧ x = (.agg [.lit (.int .i64 a), .lit (.int .i64 b)], []) ∧ (Lit.int .i64 a).wf = true ∧ (Lit.int .i64 b).wf = true := by
  obtain ⟨y0, y1, n, rfl, -, h0, h1⟩ := trod_struct2 Try.underlying23 h
  rw [cells_i] at h0 h1
  obtain ⟨a, ha, rfl, wa⟩ := DataW.trod_int Try.underlying3 h0
  obtain ⟨b, hb, rfl, wb⟩ := DataW.trod_int Try.underlying3 h1
  simp at ha hb
  exact ⟨a, b, ha, hb, rfl, wa, wb⟩
theorem shut_point (W : World) (base : Nat) (spare : Nat → Bool) (held : Bool) (m : Nat) {a b : Int} (wa : (Lit.int .i64 a).wf = true) (wb : (Lit.int .i64 b).wf = true) :
    DataW.trod enc Try.prog W base spare held (m + 2) 23 [.int .i64 a, .int .i64 b] = some (.agg [.lit (.int .i64 a), .lit (.int .i64 b)], []) := by
  have := trod_struct2_mk (enc := enc) (w := W) (base := base) (spare := spare) (held := held) (n := m + 1) (cs := [.int .i64 a, .int .i64 b]) (y0 := (.lit (.int .i64 a), [])) (y1 := (.lit (.int .i64 b), [])) Try.underlying23 (by rw [cells_p]; rfl)
    (by rw [cells_i]; exact trod_int_mk m Try.underlying3 wa) (by rw [cells_i]; exact trod_int_mk m Try.underlying3 wb)
  simpa using this

/-- the cells of a slice of ints, and that it reads the same later -/
theorem open_zs {W : World} {fuel : Nat} {c : Value} {x : DataW H × List MemPlace} (h : DataW.trod enc Try.prog W 0 (fun _ => true) true fuel 24 [c] = some x) :
    ∃ (A : Option Addr) (n cap : Nat) (z : Nat → Int), c = .slice A n cap ∧ Ints W W.heap.size A n z ∧ n ≤ maxLen ∧ (∀ j, j < n → (Lit.int .i64 (z j)).wf = true) ∧
      ∀ (W' : World) (sp : Nat → Bool) (m : Nat), Below W.heap.size W W' → (∀ q ∈ x.2, sp q.block = true) → DataW.trod enc Try.prog W' 0 sp true (m + 2) 24 [c] = some x := by
  rcases open_ints Try.underlying24 Try.underlying3 cells_i h with ⟨hc, rfl⟩ | ⟨a, len, cap, zs, hc, hb, hl, hm, hz, rfl, hcell, hw⟩
  · simp at hc
    subst hc
    refine ⟨none, 0, 0, fun _ => 0, rfl, fun h0 => absurd h0 (by omega), by simp, fun j hj => absurd hj (by omega), fun W' sp m _ _ => ?_⟩
    simp [DataW.trod, Try.underlying24]
  · simp at hc
    subst hc
    simp at hz
    refine ⟨some a, len, cap, fun j => zs.getD j 0, rfl, fun h0 => ?_, by omega, fun j hj => ?_, fun W' sp m hbl hsp => ?_⟩
    · obtain ⟨b, off, rfl, hcl⟩ := ints_at hcell (by omega)
      refine ⟨b, off, rfl, ?_, fun j hj => hcl j (by omega)⟩
      exact World.block_lt_of_cell? W _ (hcl 0 (by omega))
    · exact hw _ (by show zs.getD j 0 ∈ zs; rw [List.getD_eq_getElem?_getD, List.getElem?_eq_getElem (by omega)]; exact List.getElem_mem _)
    · have hlt : 0 < zs.length → a.block < W.heap.size := fun h0 => by
        have := World.block_lt_of_cell? W _ (hcell 0 h0)
        simpa [Addr.add] using this
      refine shut_ints m Try.underlying24 Try.underlying3 cells_i (by omega) hl hm ?_ (fun i hi => ?_) hw
      · by_cases h0 : cap = 0
        · have : len = 0 := by omega
          split <;> omega
        · have : sp a.block = true := hsp (.cell a.block (a.off + 0)) (List.mem_map.2 ⟨0, List.mem_range.2 (by omega), rfl⟩)
          rw [if_pos this]; exact hz
      · have e : (a.add i).block = a.block := by unfold Addr.add; split <;> rfl
        exact (hbl.cell (p := a.add i) (by rw [e]; exact hlt (by omega))).trans (hcell i hi)
/-- a grid: its numbers, and that it reads the same later -/
theorem open_hgt {W : World} {r : Reach} {b0 : Nat} {v : Value} {d : DataW H} {p : List MemPlace} (hv : Value.okWide Try.prog W r b0 26 v) (h : DataW.Trod enc Try.prog W 0 (fun _ => true) true 26 v d p) :
    ∃ (x y Wd Ht S : Int) (A : Option Addr) (n c : Nat) (z : Nat → Int), v = hgt x y Wd Ht S A n c ∧ Ints W W.heap.size A n z ∧ n ≤ maxLen ∧
      ((Lit.int .i64 x).wf = true ∧ (Lit.int .i64 y).wf = true ∧ (Lit.int .i64 Wd).wf = true ∧ (Lit.int .i64 Ht).wf = true ∧ (Lit.int .i64 S).wf = true ∧ ∀ j, j < n → (Lit.int .i64 (z j)).wf = true) ∧
      ∀ (W' : World) (sp : Nat → Bool), Below W.heap.size W W' → (∀ q ∈ p, sp q.block = true) → DataW.Trod enc Try.prog W' 0 sp true 26 v d p := by
  obtain ⟨cs, rfl, hsz⟩ := okWide_struct Try.underlying26 hv
  obtain ⟨l⟩ := cs
  match l, hsz.trans cells_h with
  | [c0, c1, c2, c3, c4, c5], _ =>
    obtain ⟨fuel, hf⟩ := h
    obtain ⟨xs, n, _, hx, _, hlen, hg⟩ := DataW.trod_struct Try.underlying26 hf
    match xs, hlen with
    | [y0, y1, y2, y3, y4], _ =>
      simp only [Prod.mk.injEq] at hx
      obtain ⟨rfl, rfl⟩ := hx
      have h0 : DataW.trod enc Try.prog W 0 (fun _ => true) true n 23 [c0, c1] = some y0 := by simpa [Value.cells, cells_p] using hg 0 _ rfl
      have h1 : DataW.trod enc Try.prog W 0 (fun _ => true) true n 3 [c2] = some y1 := by simpa [Value.cells, cells_i] using hg 1 _ rfl
      have h2 : DataW.trod enc Try.prog W 0 (fun _ => true) true n 3 [c3] = some y2 := by simpa [Value.cells, cells_i] using hg 2 _ rfl
      have h3 : DataW.trod enc Try.prog W 0 (fun _ => true) true n 3 [c4] = some y3 := by simpa [Value.cells, cells_i] using hg 3 _ rfl
      have h4 : DataW.trod enc Try.prog W 0 (fun _ => true) true n 24 [c5] = some y4 := by simpa [Value.cells, cells_s] using hg 4 _ rfl
      obtain ⟨x, y, rfl, rfl, rfl, wx, wy⟩ := open_point h0
      obtain ⟨Wd, e1, rfl, w1⟩ := DataW.trod_int Try.underlying3 h1
      obtain ⟨Ht, e2, rfl, w2⟩ := DataW.trod_int Try.underlying3 h2
      obtain ⟨S, e3, rfl, w3⟩ := DataW.trod_int Try.underlying3 h3
      simp at e1 e2 e3
      subst e1 e2 e3
      obtain ⟨A, len, c, z, rfl, hI, hm, wz, hback⟩ := open_zs h4
      refine ⟨x, y, Wd, Ht, S, A, len, c, z, rfl, hI, hm, ⟨wx, wy, w1, w2, w3, wz⟩, fun W' sp hb hsp => ⟨3, ?_⟩⟩
      have k4 := hback W' sp 0 hb (fun q hq => hsp q (by simp [hq]))
      exact trod_struct_mk (enc := enc) (w := W') (base := 0) (spare := sp) (held := true) (n := 2) Try.underlying26 (by rw [cells_h]; rfl)
        (by simp [Value.cells, cells_p, cells_i, cells_s, shut_point W' 0 sp true 0 wx wy, trod_int_mk 1 Try.underlying3 w1, trod_int_mk 1 Try.underlying3 w2, trod_int_mk 1 Try.underlying3 w3, k4])
end
end Go.Proofs.Ythgdmcjahldihaa
