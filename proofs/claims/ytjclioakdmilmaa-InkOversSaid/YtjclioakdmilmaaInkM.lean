/- The contract of ink.Over. -/
import Derived.Test.YtjclioakdmilmaaInkL
import Derived.Test.YtjclioakdmilmaaInkPlainE
namespace Go.Proofs.Ytjclioakdmilmaa
open Go.RowKit
open Num Ink
set_option linter.unusedVariables false
/-- an operation at a place in a block -/
def DwAt (w : World) (b f : Nat) (x : Dr) (s : Value) : Prop :=
  w.cell? ⟨b, f, none⟩ = some (.int .i64 x.k) ∧ w.cell? ⟨b, f + 1, none⟩ = some (.int .i64 x.x0) ∧ w.cell? ⟨b, f + 2, none⟩ = some (.int .i64 x.y0) ∧ w.cell? ⟨b, f + 3, none⟩ = some (.int .i64 x.x1) ∧ w.cell? ⟨b, f + 4, none⟩ = some (.int .i64 x.y1) ∧
  w.cell? ⟨b, f + 5, none⟩ = some s ∧ w.cell? ⟨b, f + 6, none⟩ = some (.int .i64 x.a) ∧ w.cell? ⟨b, f + 7, none⟩ = some (.int .i64 x.b) ∧ w.cell? ⟨b, f + 8, none⟩ = some (.int .i64 x.c) ∧ w.cell? ⟨b, f + 9, none⟩ = some (.int .i64 x.d)
theorem DwAt.old {v u : World} {B b f : Nat} {x : Dr} {s : Value} (h : DwAt v b f x s) (hb : Below B v u) (hB : b < B) : DwAt u b f x s := by
  obtain ⟨h0, h1, h2, h3, h4, h5, h6, h7, h8, h9⟩ := h
  have c : ∀ o z, v.cell? ⟨b, o, none⟩ = some z → u.cell? ⟨b, o, none⟩ = some z := fun o z hz => (hb.cell (p := ⟨b, o, none⟩) hB).trans hz
  exact ⟨c _ _ h0, c _ _ h1, c _ _ h2, c _ _ h3, c _ _ h4, c _ _ h5, c _ _ h6, c _ _ h7, c _ _ h8, c _ _ h9⟩
theorem Pts.le {w : World} {B B' : Nat} {a : Option Addr} {l : List (Int × Int)} (h : Pts w B a l) (hB : B ≤ B') : Pts w B' a l := fun hn => by
  obtain ⟨b, off, e, h1, hc⟩ := h hn
  exact ⟨b, off, e, by omega, hc⟩
/-- a list of operations in memory -/
def Drs (w : World) (B : Nat) (a : Option Addr) (D : List Dr) : Prop :=
  0 < D.length → ∃ b off, a = some ⟨b, off, none⟩ ∧ b < B ∧ ∀ j (h : j < D.length), ∃ pa pc, DwAt w b (off + j * 10) D[j] (.slice pa D[j].l.length pc) ∧ Pts w B pa D[j].l
theorem Drs.old {v u : World} {B : Nat} {a : Option Addr} {D : List Dr} (h : Drs v B a D) (hb : Below B v u) : Drs u B a D := fun hn => by
  obtain ⟨b, off, e, hB, hc⟩ := h hn
  refine ⟨b, off, e, hB, fun j hj => ?_⟩
  obtain ⟨pa, pc, h1, h2⟩ := hc j hj
  exact ⟨pa, pc, h1.old hb hB, h2.old hb⟩
/-- four plates are returned, and an error -/
def PlR (ws hs : Nat → Int) (vs : Nat → List Int) (E : Int) (w : World) (e : Ending) (u : World) : Prop :=
  ∃ (ad : Nat → Option Addr) (cp : Nat → Nat), e = .returned (.tuple #[pl4 ws hs fun i => .slice (ad i) (vs i).length (cp i), .int .i64 E]) ∧ Ns4 u ad vs ∧ (∀ i, i < 4 → ∀ b o, ad i = some ⟨b, o, none⟩ → w.heap.size ≤ b) ∧ Below w.heap.size w u
/-- twelve empty cells -/
def Z12 (v : World) (b : Nat) : Prop := v.cell? ⟨b, 0, none⟩ = some (.int .i64 0) ∧ v.cell? ⟨b, 1, none⟩ = some (.int .i64 0) ∧ v.cell? ⟨b, 2, none⟩ = some (.slice none 0 0) ∧ v.cell? ⟨b, 3, none⟩ = some (.int .i64 0) ∧ v.cell? ⟨b, 4, none⟩ = some (.int .i64 0) ∧ v.cell? ⟨b, 5, none⟩ = some (.slice none 0 0) ∧ v.cell? ⟨b, 6, none⟩ = some (.int .i64 0) ∧ v.cell? ⟨b, 7, none⟩ = some (.int .i64 0) ∧ v.cell? ⟨b, 8, none⟩ = some (.slice none 0 0) ∧ v.cell? ⟨b, 9, none⟩ = some (.int .i64 0) ∧ v.cell? ⟨b, 10, none⟩ = some (.int .i64 0) ∧ v.cell? ⟨b, 11, none⟩ = some (.slice none 0 0)
theorem Z12.later {v u : World} {b : Nat} (h : Z12 v b) (hb : Below v.heap.size v u) : Z12 u b := by
  obtain ⟨h0, h1, h2, h3, h4, h5, h6, h7, h8, h9, h10, h11⟩ := h
  exact ⟨cell_on h0 hb, cell_on h1 hb, cell_on h2 hb, cell_on h3 hb, cell_on h4 hb, cell_on h5 hb, cell_on h6 hb, cell_on h7 hb, cell_on h8 hb, cell_on h9 hb, cell_on h10 hb, cell_on h11 hb⟩
theorem Z12.new (v : World) (t : TypeId) : Z12 (v.alloc (.cells #[.int .i64 0, .int .i64 0, .slice none 0 0, .int .i64 0, .int .i64 0, .slice none 0 0, .int .i64 0, .int .i64 0, .slice none 0 0, .int .i64 0, .int .i64 0, .slice none 0 0] t)) v.heap.size := by
  unfold Z12; simp
/-- the empty plates, returned -/
theorem plR_none (E : Int) (w u : World) (h : Below w.heap.size w u) : PlR (fun _ => 0) (fun _ => 0) (fun _ => []) E w (.returned (.tuple #[.agg #[.int .i64 0, .int .i64 0, .slice none 0 0, .int .i64 0, .int .i64 0, .slice none 0 0, .int .i64 0, .int .i64 0, .slice none 0 0, .int .i64 0, .int .i64 0, .slice none 0 0], .int .i64 E])) u :=
  ⟨fun _ => Option.none, fun _ => 0, rfl, fun i _ hn => absurd hn (by simp), fun i _ b o h => by simp at h, h⟩
theorem ov_bad {ws hs : Nat → Int} {vs : Nat → List Int} {D : List Dr} {E : Int} (h : ovE ws hs vs D = E) (hE : E ≠ 0) : ovW ws hs vs D = (fun _ => 0) ∧ ovH ws hs vs D = (fun _ => 0) ∧ ovV ws hs vs D = fun _ => [] := by
  subst h
  refine ⟨?_, ?_, ?_⟩ <;> funext i
  · unfold ovW; rw [if_neg hE]
  · unfold ovH; rw [if_neg hE]
  · unfold ovV; rw [if_neg hE]
theorem Ns.old {w w' : World} {B : Nat} {a : Option Addr} {l : List Int} (h : Ns w B a l) (hb : Below B w w') : Ns w' B a l := fun hn => by
  obtain ⟨b, off, e, hB, hc⟩ := h hn
  exact ⟨b, off, e, hB, fun j hj => (hb.cell (p := ⟨b, off + j, none⟩) hB).trans (hc j hj)⟩
theorem Ns.le {w : World} {B B' : Nat} {a : Option Addr} {l : List Int} (h : Ns w B a l) (hB : B ≤ B') : Ns w B' a l := fun hn => by
  obtain ⟨b, off, e, h1, hc⟩ := h hn
  exact ⟨b, off, e, by omega, hc⟩
theorem own_base {w : World} {base B n s : Nat} {v : Value} {xs : List Value} {e : TypeId} (h : w.ownsRow B e s v n xs) (hB : base ≤ B) : w.ownsRow base e s v n xs := by
  refine ⟨h.1, ?_⟩
  rcases h.2 with g | ⟨g, c, cur, g1, g2, g3⟩
  · exact .inl g
  · exact .inr ⟨g, c, cur, g1, by omega, g3⟩
/-- the first j plates have been copied -/
structure Cl (v : World) (o j : Nat) (g c : Nat → Nat) (ws hs : Nat → Int) (vs : Nat → List Int) (base : Nat) : Prop where
  wd : ∀ i, i < j → v.cell? ⟨o, i * 3, none⟩ = some (.int .i64 (ws i))
  ht : ∀ i, i < j → v.cell? ⟨o, i * 3 + 1, none⟩ = some (.int .i64 (hs i))
  sl : ∀ i, i < j → v.cell? ⟨o, i * 3 + 2, none⟩ = some (.slice (some ⟨g i, 0, none⟩) (vs i).length (c i))
  cp : ∀ i, i < j → (vs i).length ≤ c i
  own : ∀ i, i < j → v.ownsRow base 3 1 (.slice (some ⟨g i, 0, none⟩) (vs i).length (c i)) (vs i).length ((vs i).map (Value.int .i64))
  gn : ∀ i i', i < j → i' < j → i ≠ i' → g i ≠ g i'
  ex : ∀ k, k < 12 → ∃ z, v.cell? ⟨o, k, none⟩ = some z
  fo : ∀ k, v.frozen? ⟨o, k, none⟩ = false
  ob : o < base
theorem Cl.glt {v : World} {o j : Nat} {g c : Nat → Nat} {ws hs : Nat → Int} {vs : Nat → List Int} {base : Nat} (h : Cl v o j g c ws hs vs base) (i : Nat) (hi : i < j) : base ≤ g i ∧ g i < v.heap.size := (h.own i hi).lt (g i) rfl
theorem Cl.later {v u : World} {o j : Nat} {g c : Nat → Nat} {ws hs : Nat → Int} {vs : Nat → List Int} {base : Nat} (h : Cl v o j g c ws hs vs base) (hb : Below v.heap.size v u) : Cl u o j g c ws hs vs base := by
  refine ⟨fun i hi => cell_on (h.wd i hi) hb, fun i hi => cell_on (h.ht i hi) hb, fun i hi => cell_on (h.sl i hi) hb, h.cp, fun i hi => own_on (h.own i hi) hb, h.gn, fun k hk => ?_, fun k => ?_, h.ob⟩
  · obtain ⟨z, hz⟩ := h.ex k hk
    exact ⟨z, cell_on hz hb⟩
  · obtain ⟨z, hz⟩ := h.ex 0 (by omega)
    exact (hb.frozen (p := ⟨o, k, none⟩) (cell_lt hz)).trans (h.fo k)
theorem Cl.step {v : World} {o j : Nat} {g c : Nat → Nat} {ws hs : Nat → Int} {vs : Nat → List Int} {base B : Nat} {z : Value} (h : Cl v o j g c ws hs vs base) (hj : j < 4) (hB : base ≤ B) (hgB : ∀ i, i < j → g i < B) (hz : ClR B (vs j) z v) :
    ∃ g' c', Cl (((v.setCell ⟨o, j * 3, none⟩ (.int .i64 (ws j))).setCell ⟨o, j * 3 + 1, none⟩ (.int .i64 (hs j))).setCell ⟨o, j * 3 + 2, none⟩ z) o (j + 1) g' c' ws hs vs base := by
  obtain ⟨gz, cz, rfl, hcz, hown⟩ := hz
  have hgz := (hown.lt gz rfl).1
  have na : ∀ x y : Nat, x ≠ y → (⟨o, x, none⟩ : Addr) ≠ ⟨o, y, none⟩ := by intro x y e q; injection q with q1 q2; exact e q2
  have oth : ∀ x, x ≠ j * 3 → x ≠ j * 3 + 1 → x ≠ j * 3 + 2 → (((v.setCell ⟨o, j * 3, none⟩ (.int .i64 (ws j))).setCell ⟨o, j * 3 + 1, none⟩ (.int .i64 (hs j))).setCell ⟨o, j * 3 + 2, none⟩ (.slice (some ⟨gz, 0, none⟩) (vs j).length cz)).cell? ⟨o, x, none⟩ = v.cell? ⟨o, x, none⟩ := fun x h1 h2 h3 => by
    rw [World.cell?_setCell_other _ _ _ _ (na _ _ (Ne.symm h3)), World.cell?_setCell_other _ _ _ _ (na _ _ (Ne.symm h2)), World.cell?_setCell_other _ _ _ _ (na _ _ (Ne.symm h1))]
  obtain ⟨z0, e0⟩ := h.ex (j * 3) (by omega)
  obtain ⟨z1, e1⟩ := h.ex (j * 3 + 1) (by omega)
  obtain ⟨z2, e2⟩ := h.ex (j * 3 + 2) (by omega)
  have s0 : (((v.setCell ⟨o, j * 3, none⟩ (.int .i64 (ws j))).setCell ⟨o, j * 3 + 1, none⟩ (.int .i64 (hs j))).setCell ⟨o, j * 3 + 2, none⟩ (.slice (some ⟨gz, 0, none⟩) (vs j).length cz)).cell? ⟨o, j * 3, none⟩ = some (.int .i64 (ws j)) := by
    rw [World.cell?_setCell_other _ _ _ _ (na _ _ (by omega)), World.cell?_setCell_other _ _ _ _ (na _ _ (by omega))]
    exact World.cell?_setCell_same _ _ _ e0
  have s1 : (((v.setCell ⟨o, j * 3, none⟩ (.int .i64 (ws j))).setCell ⟨o, j * 3 + 1, none⟩ (.int .i64 (hs j))).setCell ⟨o, j * 3 + 2, none⟩ (.slice (some ⟨gz, 0, none⟩) (vs j).length cz)).cell? ⟨o, j * 3 + 1, none⟩ = some (.int .i64 (hs j)) := by
    rw [World.cell?_setCell_other _ _ _ _ (na _ _ (by omega))]
    exact World.cell?_setCell_same _ _ _ (by rw [World.cell?_setCell_other _ _ _ _ (na _ _ (by omega))]; exact e1)
  have s2 : (((v.setCell ⟨o, j * 3, none⟩ (.int .i64 (ws j))).setCell ⟨o, j * 3 + 1, none⟩ (.int .i64 (hs j))).setCell ⟨o, j * 3 + 2, none⟩ (.slice (some ⟨gz, 0, none⟩) (vs j).length cz)).cell? ⟨o, j * 3 + 2, none⟩ = some (.slice (some ⟨gz, 0, none⟩) (vs j).length cz) :=
    World.cell?_setCell_same _ _ _ (by rw [World.cell?_setCell_other _ _ _ _ (na _ _ (by omega)), World.cell?_setCell_other _ _ _ _ (na _ _ (by omega))]; exact e2)
  have ko : ∀ {vv : Value} {nn : Nat} {xs : List Value}, v.ownsRow base 3 1 vv nn xs → (((v.setCell ⟨o, j * 3, none⟩ (.int .i64 (ws j))).setCell ⟨o, j * 3 + 1, none⟩ (.int .i64 (hs j))).setCell ⟨o, j * 3 + 2, none⟩ (.slice (some ⟨gz, 0, none⟩) (vs j).length cz)).ownsRow base 3 1 vv nn xs := fun hr =>
    ownsRow_setCell_below (ownsRow_setCell_below (ownsRow_setCell_below hr (a := ⟨o, j * 3, none⟩) h.ob _) (a := ⟨o, j * 3 + 1, none⟩) h.ob _) (a := ⟨o, j * 3 + 2, none⟩) h.ob _
  refine ⟨fun i => if i = j then gz else g i, fun i => if i = j then cz else c i, fun i hi => ?_, fun i hi => ?_, fun i hi => ?_, fun i hi => ?_, fun i hi => ?_, fun i i' hi hi' hne => ?_, fun k hk => ?_, fun k => by simp [h.fo k], h.ob⟩
  · by_cases e : i = j
    · subst e; exact s0
    · rw [oth _ (by omega) (by omega) (by omega)]; exact h.wd i (by omega)
  · by_cases e : i = j
    · subst e; exact s1
    · rw [oth _ (by omega) (by omega) (by omega)]; exact h.ht i (by omega)
  · by_cases e : i = j
    · subst e; simp only [if_pos]; exact s2
    · simp only [if_neg e]; rw [oth _ (by omega) (by omega) (by omega)]; exact h.sl i (by omega)
  · by_cases e : i = j
    · subst e; simp only [if_pos]; exact hcz
    · simp only [if_neg e]; exact h.cp i (by omega)
  · by_cases e : i = j
    · subst e; simp only [if_pos]; exact ko (own_base hown hB)
    · simp only [if_neg e]; exact ko (h.own i (by omega))
  · by_cases e : i = j
    · subst e
      have : ¬ i' = i := fun q => hne q.symm
      simp only [if_pos, if_neg this]
      have := hgB i' (by omega)
      omega
    · by_cases e' : i' = j
      · subst e'
        simp only [if_pos, if_neg e]
        have := hgB i (by omega)
        omega
      · simp only [if_neg e, if_neg e']
        exact h.gn i i' (by omega) (by omega) hne
  · by_cases q0 : k = j * 3
    · exact ⟨_, by rw [q0]; exact s0⟩
    · by_cases q1 : k = j * 3 + 1
      · exact ⟨_, by rw [q1]; exact s1⟩
      · by_cases q2 : k = j * 3 + 2
        · exact ⟨_, by rw [q2]; exact s2⟩
        · obtain ⟨z, hz⟩ := h.ex k hk
          exact ⟨z, by rw [oth k q0 q1 q2]; exact hz⟩
theorem Cl.start {v : World} {o base : Nat} {g c : Nat → Nat} {ws hs : Nat → Int} {vs : Nat → List Int} (hz : Z12 v o) (hf : ∀ j, v.frozen? ⟨o, j, none⟩ = false) (hb : o < base) : Cl v o 0 g c ws hs vs base := by
  refine ⟨fun i hi => by omega, fun i hi => by omega, fun i hi => by omega, fun i hi => by omega, fun i hi => by omega, fun i i' hi => by omega, fun k hk => ?_, hf, hb⟩
  obtain ⟨h0, h1, h2, h3, h4, h5, h6, h7, h8, h9, h10, h11⟩ := hz
  obtain rfl | rfl | rfl | rfl | rfl | rfl | rfl | rfl | rfl | rfl | rfl | rfl : k = 0 ∨ k = 1 ∨ k = 2 ∨ k = 3 ∨ k = 4 ∨ k = 5 ∨ k = 6 ∨ k = 7 ∨ k = 8 ∨ k = 9 ∨ k = 10 ∨ k = 11 := by omega
  all_goals exact ⟨_, by assumption⟩
theorem Cl.pls {v : World} {o : Nat} {g c : Nat → Nat} {ws hs : Nat → Int} {vs : Nat → List Int} {base : Nat} (h : Cl v o 4 g c ws hs vs base) (h1 : ∀ i, i < 4 → ws i = ws 0 ∧ hs i = hs 0 ∧ (vs i).length = (vs 0).length) (h0 : 0 < (vs 0).length) : Pls v o g c (vs 0).length (ws 0) (hs 0) (pic vs) := by
  refine ⟨fun i hi => by rw [← (h1 i hi).1]; exact h.wd i hi, fun i hi => by rw [← (h1 i hi).2.1]; exact h.ht i hi, fun i hi => by rw [← (h1 i hi).2.2]; exact h.sl i hi, fun i hi => by rw [← (h1 i hi).2.2]; exact h.cp i hi, fun i hi j hj => ?_, fun i hi j => (h.own i hi).frozenAt j, fun i hi e => by have := (h.glt i hi).1; have := h.ob; omega, fun i i' hi hi' hne => h.gn i i' hi hi' hne, h0⟩
  have hj' : j < (vs i).length := by rw [(h1 i hi).2.2]; exact hj
  rw [(h.own i hi).cellAt j (by omega)]
  unfold pic
  rw [List.getElem?_map, List.getElem?_eq_getElem hj']; simp [hj']
theorem drw_s {w : Nat} {h xk x0 y0 x1 y1 : Int} {l : List (Int × Int)} {xa xb xc xd W : Int} {V : Pic} (hk : xk = 2) (hW : W = (w : Int)) : drw w h ⟨xk, x0, y0, x1, y1, l, xa, xb, xc, xd⟩ V = putL W h (ik4 xa xb xc xd) (pth l (l.length - 1)) V := by
  unfold drw; rw [if_pos hk, hW]; rfl
theorem drw_f {w : Nat} {h xk x0 y0 x1 y1 : Int} {l : List (Int × Int)} {xa xb xc xd : Int} {V : Pic} (hk : ¬ xk = 2) : drw w h ⟨xk, x0, y0, x1, y1, l, xa, xb, xc, xd⟩ V = filP w x0 y0 x1 y1 (ik4 xa xb xc xd) V := by
  unfold drw; rw [if_neg hk]; rfl
/-- the plates, returned -/
theorem plR_good {W H : Int} {n : Nat} {V : Pic} {o : Nat} {g c : Nat → Nat} {w u : World} {RW RH : Nat → Int} {RV : Nat → List Int} (hP : Pls u o g c n W H V) (hb : Below w.heap.size w u) (hg : ∀ i, i < 4 → w.heap.size ≤ g i) (h1 : RW = fun _ => W) (h2 : RH = fun _ => H) (h3 : RV = fun i => (List.range n).map (V i)) :
    PlR RW RH RV 0 w (.returned (.tuple #[.agg #[.int .i64 W, .int .i64 H, .slice (some ⟨g 0, 0, none⟩) n (c 0), .int .i64 W, .int .i64 H, .slice (some ⟨g 1, 0, none⟩) n (c 1), .int .i64 W, .int .i64 H, .slice (some ⟨g 2, 0, none⟩) n (c 2), .int .i64 W, .int .i64 H, .slice (some ⟨g 3, 0, none⟩) n (c 3)], .int .i64 0])) u := by
  subst h1 h2 h3
  refine ⟨fun i => some ⟨g i, 0, none⟩, c, ?_, fun i hi hn => ⟨g i, 0, rfl, hP.glt i hi, fun j hj => ?_⟩, fun i hi b o h => ?_, hb⟩
  · unfold pl4; simp
  · have hj' : j < n := by simpa using hj
    rw [Nat.zero_add, hP.px i hi j hj']
    simp
  · injection h with h
    injection h with h1 h2
    rw [← h1]; exact hg i hi
theorem makes_of {P : Program} {R : Value → World → Prop} {w : World} {r : Result Next} {f : FuncId} {args : Array Value} {E : Ending → World → Prop} (hr : r = .ok (.enter f args) w) (h : Calls P f args w E) (hE : ∀ e u, E e u → ∃ v, e = .returned v ∧ Below w.heap.size w u ∧ R v u) : makesUpon P R w r := by
  rw [hr]; exact makes_call h hE
set_option maxRecDepth 100000 in
set_option maxHeartbeats 16000000 in
theorem Over_any (ws hs : Nat → Int) (ad : Nat → Option Addr) (cp : Nat → Nat) (vs : Nat → List Int) (D : List Dr) (da : Option Addr) (dc : Nat) (w : World) (hN : Ns4 w ad vs) (hl : ∀ i, i < 4 → (vs i).length ≤ 65536) (hw : ∀ i, i < 4 → I64 (ws i)) (hh : ∀ i, i < 4 → I64 (hs i))
    (hD : Drs w w.heap.size da D) (hDl : D.length ≤ 100000) :
    Calls Try.prog 21 #[pl4 ws hs fun i => .slice (ad i) (vs i).length (cp i), .slice da D.length dc] w (PlR (ovW ws hs vs D) (ovH ws hs vs D) (ovV ws hs vs D) (ovE ws hs vs D) w) := by
  have HN := Lib.hid hN
  have HL := Lib.hid hl
  have HD := Lib.hid hD
  have CK := Lib.hid (fun v (hb : Below w.heap.size w v) => icheck4_any ws hs ad cp vs v (hN.later hb) hl hw hh)
  have HE : Hid (ovE ws hs vs D = if errP ws hs vs ≠ 0 then errP ws hs vs else if 1024 < D.length then 3 else firstE D) := Lib.hid rfl
  have HB := Lib.hid (fun E h hE => ov_bad (ws := ws) (hs := hs) (vs := vs) (D := D) (E := E) h hE)
  have HPE := Lib.hid (fun h => errP_ok (ws := ws) (hs := hs) (vs := vs) h)
  generalize hRE : ovE ws hs vs D = RE at *
  generalize hRW : ovW ws hs vs D = RW at *
  generalize hRH : ovH ws hs vs D = RH at *
  generalize hRV : ovV ws hs vs D = RV at *
  generalize hEP : errP ws hs vs = EP at *
  have REQ : Hid (ovE ws hs vs D = RE ∧ ovW ws hs vs D = RW ∧ ovH ws hs vs D = RH ∧ ovV ws hs vs D = RV) := Lib.hid ⟨hRE, hRW, hRH, hRV⟩
  clear hN hl hw hh hD hRE hRW hRH hRV hEP
  unfold pl4 at *
  go_enter Try.func21, Try.ntmps21
  go_upto_region 1 with fail
  have b1 := below_al w (.cells #[.int .i64 (ws 0), .int .i64 (hs 0), .slice (ad 0) (vs 0).length (cp 0), .int .i64 (ws 1), .int .i64 (hs 1), .slice (ad 1) (vs 1).length (cp 1), .int .i64 (ws 2), .int .i64 (hs 2), .slice (ad 2) (vs 2).length (cp 2), .int .i64 (ws 3), .int .i64 (hs 3), .slice (ad 3) (vs 3).length (cp 3)] 41)
  have p1 := P12.new w ws hs ad cp vs 41
  have s1 : (w.alloc (.cells #[.int .i64 (ws 0), .int .i64 (hs 0), .slice (ad 0) (vs 0).length (cp 0), .int .i64 (ws 1), .int .i64 (hs 1), .slice (ad 1) (vs 1).length (cp 1), .int .i64 (ws 2), .int .i64 (hs 2), .slice (ad 2) (vs 2).length (cp 2), .int .i64 (ws 3), .int .i64 (hs 3), .slice (ad 3) (vs 3).length (cp 3)] 41)).heap.size = w.heap.size + 1 := by simp
  generalize w.alloc (.cells #[.int .i64 (ws 0), .int .i64 (hs 0), .slice (ad 0) (vs 0).length (cp 0), .int .i64 (ws 1), .int .i64 (hs 1), .slice (ad 1) (vs 1).length (cp 1), .int .i64 (ws 2), .int .i64 (hs 2), .slice (ad 2) (vs 2).length (cp 2), .int .i64 (ws 3), .int .i64 (hs 3), .slice (ad 3) (vs 3).length (cp 3)] 41) = v1 at *
  have b2 := below_al v1 (.cells #[.int .i64 0, .int .i64 0, .slice none 0 0, .int .i64 0, .int .i64 0, .slice none 0 0, .int .i64 0, .int .i64 0, .slice none 0 0, .int .i64 0, .int .i64 0, .slice none 0 0] 41)
  have z2 := Z12.new v1 41
  have fz : ∀ j, (v1.alloc (.cells #[.int .i64 0, .int .i64 0, .slice none 0 0, .int .i64 0, .int .i64 0, .slice none 0 0, .int .i64 0, .int .i64 0, .slice none 0 0, .int .i64 0, .int .i64 0, .slice none 0 0] 41)).frozen? ⟨v1.heap.size, j, none⟩ = false := fun j => by simp
  rw [s1] at z2 fz
  have P2 := Lib.hid (p1.later b2)
  have Z2 := Lib.hid z2
  have F2 := Lib.hid fz
  have G2 := Lib.hid (below_on b1 b2)
  clear b1 b2 p1 z2 fz
  generalize hv2 : v1.alloc (.cells #[.int .i64 0, .int .i64 0, .slice none 0 0, .int .i64 0, .int .i64 0, .slice none 0 0, .int .i64 0, .int .i64 0, .slice none 0 0, .int .i64 0, .int .i64 0, .slice none 0 0] 41) = v2 at *
  clear hv2 s1 v1
  generalize hsz : w.heap.size = sz at *
  have HSZ := Lib.hid hsz
  clear hsz
  obtain ⟨h0, h1, h2, h3, h4, h5, h6, h7, h8, h9, h10, h11⟩ := P2.out
  have NC := Lib.hid (CK.out v2 (by exact G2.out))
  clear CK
  go_wp2_with fail
  refine NC.out.mono ?_
  rintro e v3 ⟨rfl, b3⟩
  have P3 := Lib.hid (P2.out.later b3)
  have Z3 := Lib.hid (Z2.out.later b3)
  have F3 : Hid (∀ j, v3.frozen? ⟨sz + 1, j, none⟩ = false) := Lib.hid (fun j => (b3.frozen (p := ⟨sz + 1, j, none⟩) (cell_lt Z2.out.1)).trans (F2.out j))
  have G3 := Lib.hid (G2.out.trans (b3.mono (by have := G2.out.size; have := HSZ.out; omega)))
  clear b3 P2 Z2 F2 G2 NC h0 h1 h2 h3 h4 h5 h6 h7 h8 h9 h10 h11
  have SZ3 : Hid (sz + 1 < v3.heap.size) := Lib.hid (cell_lt Z3.out.1)
  by_cases he : EP ≠ 0
  · have hR := HE.out.trans (if_pos he)
    obtain ⟨r1, r2, r3⟩ := HB.out EP hR he
    have d1 : (EP == 0) = false := by simpa using he
    have d2 : (EP != 0) = true := by simpa using he
    subst r1 r2 r3 hR
    have PR : Hid (PlR (fun _ => 0) (fun _ => 0) (fun _ => []) RE w (.returned (.tuple #[.agg #[.int .i64 0, .int .i64 0, .slice none 0 0, .int .i64 0, .int .i64 0, .slice none 0 0, .int .i64 0, .int .i64 0, .slice none 0 0, .int .i64 0, .int .i64 0, .slice none 0 0], .int .i64 RE])) v3) := Lib.hid (plR_none RE w v3 (by rw [HSZ.out]; exact G3.out))
    obtain ⟨h0, h1, h2, h3, h4, h5, h6, h7, h8, h9, h10, h11⟩ := Z3.out
    have f0 := F3.out
    have i0 := setCell_id h0
    have i1 := setCell_id h1
    have i2 := setCell_id h2
    have i3 := setCell_id h3
    have i4 := setCell_id h4
    have i5 := setCell_id h5
    have i6 := setCell_id h6
    have i7 := setCell_id h7
    have i8 := setCell_id h8
    have i9 := setCell_id h9
    have i10 := setCell_id h10
    have i11 := setCell_id h11
    clear HE HB he HPE
    go_wp2
    exact bodyPost_ret (v := .tuple #[.agg #[.int .i64 0, .int .i64 0, .slice none 0 0, .int .i64 0, .int .i64 0, .slice none 0 0, .int .i64 0, .int .i64 0, .slice none 0 0, .int .i64 0, .int .i64 0, .slice none 0 0], .int .i64 RE]) (by simp [results, Try.results21, go_sem, h0, h1, h2, h3, h4, h5, h6, h7, h8, h9, h10, h11]) rfl PR.out
  have hE0 : EP = 0 := by omega
  subst hE0
  have HE2 : Hid (RE = if 1024 < D.length then 3 else firstE D) := Lib.hid (HE.out.trans (if_neg he))
  have OK := Lib.hid (HPE.out rfl)
  clear HE he HPE
  by_cases hd4 : 1024 < D.length
  · have hR := HE2.out.trans (if_pos hd4)
    have d1 : decide ((1024 : Int) < (D.length : Int)) = true := by simp; omega
    obtain ⟨r1, r2, r3⟩ := HB.out _ hR (by omega)
    subst r1 r2 r3 hR
    have PR : Hid (PlR (fun _ => 0) (fun _ => 0) (fun _ => []) 3 w (.returned (.tuple #[.agg #[.int .i64 0, .int .i64 0, .slice none 0 0, .int .i64 0, .int .i64 0, .slice none 0 0, .int .i64 0, .int .i64 0, .slice none 0 0, .int .i64 0, .int .i64 0, .slice none 0 0], .int .i64 3])) v3) := Lib.hid (plR_none 3 w v3 (by rw [HSZ.out]; exact G3.out))
    obtain ⟨h0, h1, h2, h3, h4, h5, h6, h7, h8, h9, h10, h11⟩ := Z3.out
    have f0 := F3.out
    have i0 := setCell_id h0
    have i1 := setCell_id h1
    have i2 := setCell_id h2
    have i3 := setCell_id h3
    have i4 := setCell_id h4
    have i5 := setCell_id h5
    have i6 := setCell_id h6
    have i7 := setCell_id h7
    have i8 := setCell_id h8
    have i9 := setCell_id h9
    have i10 := setCell_id h10
    have i11 := setCell_id h11
    clear HE2 HB hd4 OK
    go_wp2
    exact bodyPost_ret (v := .tuple #[.agg #[.int .i64 0, .int .i64 0, .slice none 0 0, .int .i64 0, .int .i64 0, .slice none 0 0, .int .i64 0, .int .i64 0, .slice none 0 0, .int .i64 0, .int .i64 0, .slice none 0 0], .int .i64 3]) (by simp [results, Try.results21, go_sem, h0, h1, h2, h3, h4, h5, h6, h7, h8, h9, h10, h11]) rfl PR.out
  have HE3 := Lib.hid (HE2.out.trans (if_neg hd4))
  have d1 : decide ((1024 : Int) < (D.length : Int)) = false := by simp; omega
  have hdl : D.length ≤ 1024 := by omega
  clear HE2 hd4
  go_wp2_with fail
  go_loopw [24, 5] (fun i e wr => ∃ k : Nat, k ≤ D.length ∧ i = .int .i64 k ∧ e = .int .i64 0 ∧ Hid (∀ m (hm : m < D.length), m < k → D[m].err = 0) ∧ Hid (Below v3.heap.size v3 wr)) (fun i _ _ => D.length - (intOf i).toNat)
  case atStart => exact ⟨0, by omega, rfl, rfl, Lib.hid (fun m _ h => by omega), Lib.hid (Below.refl _ _)⟩
  case round =>
    obtain ⟨k, hk, rfl, rfl, HJ, HW⟩ := hrel
    by_cases hlt : k < D.length
    · obtain ⟨b, off, rfl, hb, hc⟩ := (HD.out.old (G3.out.trans (HW.out.mono (by have := SZ3.out; omega)))) (by omega)
      obtain ⟨pa, pc, ⟨c0, c1, c2, c3, c4, c5, c6, c7, c8, c9⟩, hpts⟩ := hc k hlt
      have HF : Hid (D[k].err ≠ 0 → RE = D[k].err) := Lib.hid (fun h => HE3.out.trans (firstE_bad hlt HJ.out h))
      have HT : Hid (D[k].err = 0 → ∀ m (hm : m < D.length), m < k + 1 → D[m].err = 0) := Lib.hid (fun h m hm hmk => by
        by_cases e : m < k
        · exact HJ.out m hm e
        · obtain rfl : m = k := by omega
          exact h)
      have HPT := Lib.hid hpts
      have q1 : (0 : Int) ≤ (k : Int) := by omega
      have q2 : (k : Int) < (D.length : Int) := by omega
      clear hc hpts
      generalize D[k] = x at *
      obtain ⟨xk, x0, y0, x1, y1, l, xa, xb, xc, xd⟩ := x
      dsimp only at *
      have CX : Hid (∀ v, Below wr.heap.size wr v → Calls Try.prog 9 #[.agg #[.int .i64 xk, .int .i64 x0, .int .i64 y0, .int .i64 x1, .int .i64 y1, .slice pa l.length pc, .int .i64 xa, .int .i64 xb, .int .i64 xc, .int .i64 xd]] v fun e u => e = .returned (.int .i64 (Dr.err ⟨xk, x0, y0, x1, y1, l, xa, xb, xc, xd⟩)) ∧ Below v.heap.size v u) :=
        Lib.hid (fun v hv => icheck_any xk x0 y0 x1 y1 l pa pc xa xb xc xd v ((HPT.out.le (by have := HSZ.out; have := SZ3.out; have := HW.out.size; omega)).later hv))
      generalize Dr.err ⟨xk, x0, y0, x1, y1, l, xa, xb, xc, xd⟩ = er at *
      have bz := below_al wr (.cells #[.int .i64 xk, .int .i64 x0, .int .i64 y0, .int .i64 x1, .int .i64 y1, .slice pa l.length pc, .int .i64 xa, .int .i64 xb, .int .i64 xc, .int .i64 xd] 27)
      have HW1 := Lib.hid (below_on HW.out bz)
      have CX1 := Lib.hid (CX.out _ bz)
      clear bz CX HPT
      go_wp2_with fail
      refine CX1.out.mono ?_
      rintro e v6 ⟨rfl, b6⟩
      have HW2 := Lib.hid (below_on HW1.out b6)
      clear b6 HW1 CX1 HW c0 c1 c2 c3 c4 c5 c6 c7 c8 c9
      by_cases her : er = 0
      · have d2 : (er == 0) = true := by simpa using her
        have d3 : (er != 0) = false := by simpa using her
        have HT2 := Lib.hid (HT.out her)
        subst her
        clear HF HT HJ d2 d3
        go_wp2
        go_roundw
        case rel => exact ⟨k + 1, by omega, by go_num, rfl, HT2, HW2⟩
        case measure => simp [intOf] <;> omega
      · have d2 : (er == 0) = false := by simpa using her
        have d3 : (er != 0) = true := by simpa using her
        have hR := HF.out her
        have Z6 := Lib.hid (Z3.out.later HW2.out)
        have F6 : Hid (∀ j, v6.frozen? ⟨sz + 1, j, none⟩ = false) := Lib.hid (fun j => (HW2.out.frozen (p := ⟨sz + 1, j, none⟩) SZ3.out).trans (F3.out j))
        have G6 := Lib.hid (G3.out.trans (HW2.out.mono (by have := SZ3.out; omega)))
        obtain ⟨r1, r2, r3⟩ := HB.out _ hR her
        subst r1 r2 r3 hR
        have PR : Hid (PlR (fun _ => 0) (fun _ => 0) (fun _ => []) RE w (.returned (.tuple #[.agg #[.int .i64 0, .int .i64 0, .slice none 0 0, .int .i64 0, .int .i64 0, .slice none 0 0, .int .i64 0, .int .i64 0, .slice none 0 0, .int .i64 0, .int .i64 0, .slice none 0 0], .int .i64 RE])) v6) := Lib.hid (plR_none RE w v6 (by rw [HSZ.out]; exact G6.out))
        obtain ⟨h0, h1, h2, h3, h4, h5, h6, h7, h8, h9, h10, h11⟩ := Z6.out
        have f0 := F6.out
        have i0 := setCell_id h0
        have i1 := setCell_id h1
        have i2 := setCell_id h2
        have i3 := setCell_id h3
        have i4 := setCell_id h4
        have i5 := setCell_id h5
        have i6 := setCell_id h6
        have i7 := setCell_id h7
        have i8 := setCell_id h8
        have i9 := setCell_id h9
        have i10 := setCell_id h10
        have i11 := setCell_id h11
        clear HF HT HJ her HE3 HB
        go_wp2
        exact bodyPost_ret (v := .tuple #[.agg #[.int .i64 0, .int .i64 0, .slice none 0 0, .int .i64 0, .int .i64 0, .slice none 0 0, .int .i64 0, .int .i64 0, .slice none 0 0, .int .i64 0, .int .i64 0, .slice none 0 0], .int .i64 RE]) (by simp [results, Try.results21, go_sem, h0, h1, h2, h3, h4, h5, h6, h7, h8, h9, h10, h11]) rfl PR.out
    · have OKD : Hid (∀ m (hm : m < D.length), D[m].err = 0) := Lib.hid (fun m hm => HJ.out m hm (by omega))
      have P6 := Lib.hid (P3.out.later HW.out)
      have Z6 := Lib.hid (Z3.out.later HW.out)
      have F6 : Hid (∀ j, wr.frozen? ⟨sz + 1, j, none⟩ = false) := Lib.hid (fun j => (HW.out.frozen (p := ⟨sz + 1, j, none⟩) SZ3.out).trans (F3.out j))
      have G6 := Lib.hid (G3.out.trans (HW.out.mono (by have := SZ3.out; omega)))
      have SZ6 : Hid (sz + 1 < wr.heap.size) := Lib.hid (by have := HW.out.size; have := SZ3.out; omega)
      have RE0 : Hid (RE = 0) := Lib.hid (HE3.out.trans (firstE_good OKD.out))
      clear HJ HE3 P3 Z3 F3 G3 SZ3 HW HB
      obtain ⟨h0, h1, h2, h3, h4, h5, h6, h7, h8, h9, h10, h11⟩ := P6.out
      go_wp2_with fail
      clear h0 h1 h2 h3 h4 h5 h6 h7 h8 h9 h10 h11 P6
      generalize wr = w6 at *
      have L0 := Lib.hid (Cl.start (g := fun _ => 0) (c := fun _ => 0) (ws := ws) (hs := hs) (vs := vs) Z6.out F6.out SZ6.out)
      clear Z6 F6
      generalize hbs : w6.heap.size = bs at *
      have HBS := Lib.hid hbs
      clear hbs
      go_loopw [36] (fun i wr => ∃ j : Nat, j ≤ 4 ∧ i = .int .i64 j ∧ Hid (∃ g c, Cl wr (sz + 1) j g c ws hs vs bs) ∧ Hid (Below sz w6 wr)) (fun i _ => 4 - (intOf i).toNat)
      case atStart => exact ⟨0, by omega, rfl, Lib.hid ⟨_, _, L0.out⟩, Lib.hid (Below.refl _ _)⟩
      case round =>
        obtain ⟨j, hj, rfl, HC, HW⟩ := hrel
        by_cases hlt : j < 4
        · have q1 : (0 : Int) ≤ (j : Int) := by omega
          have q2 : (j : Int) < 4 := by omega
          have hlj := HL.out j hlt
          have h0 : 0 < (vs j).length := by
            obtain ⟨o1, o2, o3⟩ := OK.out
            have h1 := (o3 j hlt).2.2.2.1
            have h2 : 0 < ws 0 * hs 0 := Int.mul_pos (by omega) (by omega)
            omega
          obtain ⟨b, off, e, -, -⟩ := (HN.out j hlt) h0
          have NS : Ns wr sz (ad j) (vs j) := ((HN.out j hlt).le (by have := HSZ.out; omega)).old (G6.out.trans HW.out)
          have SZ7 : Hid (sz ≤ wr.heap.size) := Lib.hid (by have h1 := HW.out.size; have h2 := SZ6.out; have h3 := HBS.out; omega)
          rw [e] at NS
          have ix := fun v => idx41_any ws hs (fun i => .slice (ad i) (vs i).length (cp i)) j hlt v
          rw [e] at ix
          have HLJ := Lib.hid hlj
          have H0 := Lib.hid h0
          have NSH := Lib.hid NS
          clear hlj h0 NS e
          go_upto_region 16 with fail
          have bz := below_al wr (.cells #[.int .i64 (ws j), .int .i64 (hs j), .slice (some ⟨b, off, none⟩) (vs j).length (cp j)] 40)
          have p0 : (wr.alloc (.cells #[.int .i64 (ws j), .int .i64 (hs j), .slice (some ⟨b, off, none⟩) (vs j).length (cp j)] 40)).cell? ⟨wr.heap.size, 0, none⟩ = some (.int .i64 (ws j)) := by simp
          have p1 : (wr.alloc (.cells #[.int .i64 (ws j), .int .i64 (hs j), .slice (some ⟨b, off, none⟩) (vs j).length (cp j)] 40)).cell? ⟨wr.heap.size, 1, none⟩ = some (.int .i64 (hs j)) := by simp
          have p2 : (wr.alloc (.cells #[.int .i64 (ws j), .int .i64 (hs j), .slice (some ⟨b, off, none⟩) (vs j).length (cp j)] 40)).cell? ⟨wr.heap.size, 2, none⟩ = some (.slice (some ⟨b, off, none⟩) (vs j).length (cp j)) := by simp
          have HC7 : Hid (∃ g c, Cl (wr.alloc (.cells #[.int .i64 (ws j), .int .i64 (hs j), .slice (some ⟨b, off, none⟩) (vs j).length (cp j)] 40)) (sz + 1) j g c ws hs vs bs) := Lib.hid (by
            obtain ⟨g, c, h⟩ := HC.out
            exact ⟨g, c, h.later bz⟩)
          have HW7 := Lib.hid (HW.out.trans (bz.mono SZ7.out))
          have NS7 := Lib.hid (NSH.out.old (bz.mono SZ7.out))
          have SZ8 : Hid (sz ≤ (wr.alloc (.cells #[.int .i64 (ws j), .int .i64 (hs j), .slice (some ⟨b, off, none⟩) (vs j).length (cp j)] 40)).heap.size) := Lib.hid (by have := SZ7.out; have := bz.size; omega)
          clear bz HC HW NSH ix SZ7
          generalize wr.alloc (.cells #[.int .i64 (ws j), .int .i64 (hs j), .slice (some ⟨b, off, none⟩) (vs j).length (cp j)] 40) = v7 at *
          generalize wr.heap.size = zb at *
          have CL := Lib.hid (fun v (hv : Below v7.heap.size v7 v) => clone_any (vs j) b off (cp j) v7.heap.size v ((NS7.out.le SZ8.out).later hv) H0.out HLJ.out hv.size)
          refine region_freeM (P := Try.prog) [0] 7 8 66 (fun _ v u => ClR v7.heap.size (vs j) v u) (fun _ v w w' h hb => ClR.stab _ _ _ _ _ h hb) (by kernel_rfl) (by decide) (by kernel_rfl) (fun _ _ _ _ _ h => h) ?_ (by kernel_rfl) ?_
          · rfl
          apply Exists.intro
          refine ⟨?hqt, ?hmk, ?hft⟩
          case hqt =>
            intro X' hne
            haveI := hne
            simp only [List.take_succ_cons, List.take_zero]
            have L0 := fun m' : LaterP v7 X' => m'.cell p0
            have L1 := fun m' : LaterP v7 X' => m'.cell p1
            have L2 := fun m' : LaterP v7 X' => m'.cell p2
            iterate 7 (go_big_quiet_want; go_big_quiet_op; go_big_quiet_on)
            exact wpQuiet_nil rfl
          case hmk =>
            intro jj h1 h2 oo ho v hv
            obtain rfl : jj = 7 := by omega
            obtain rfl := Option.some.inj ho
            refine makes_of (f := 34) (args := #[.slice (some ⟨b, off, none⟩) (vs j).length (cp j)]) ?_ (CL.out v hv) (fun e u h => h)
            simp [go_sem]
          intro G w8 hb hG
          have hG8 := Lib.hid (hG 7 (by decide) (by decide))
          simp only [List.take_succ_cons, List.take_zero, List.drop_succ_cons, List.drop_zero, mks, putsL]
          generalize G 7 = gz at *
          obtain ⟨gg, gc, hC⟩ := HC7.out
          have hC8 := hC.later hb
          obtain ⟨z0, e0⟩ := hC8.ex (j * 3) (by omega)
          obtain ⟨z1, e1⟩ := hC8.ex (j * 3 + 1) (by omega)
          obtain ⟨z2, e2⟩ := hC8.ex (j * 3 + 2) (by omega)
          have f0 := hC8.fo
          have HS := Lib.hid (hC8.step hlt (by have h1 := HW7.out.size; have h2 := HBS.out; omega : bs ≤ v7.heap.size) (fun i hi => (hC.glt i hi).2) hG8.out)
          have HW8 := Lib.hid ((((HW7.out.trans (hb.mono SZ8.out)).setCell (p := ⟨sz + 1, j * 3, none⟩) (by show sz ≤ sz + 1; omega) (.int .i64 (ws j))).setCell (p := ⟨sz + 1, j * 3 + 1, none⟩) (by show sz ≤ sz + 1; omega) (.int .i64 (hs j))).setCell (p := ⟨sz + 1, j * 3 + 2, none⟩) (by show sz ≤ sz + 1; omega) gz)
          obtain ⟨g8, c8, hgz, -, -⟩ := hG8.out
          have HGZ := Lib.hid hgz
          clear hC hC8 hG hG8 hb HC7 HW7 NS7 p0 p1 p2 CL
          subst hgz
          go_wp2
          go_roundw
          case rel => exact ⟨j + 1, by omega, by go_num, HS, HW8⟩
          case measure => simp [intOf] <;> omega
        · obtain rfl : j = 4 := by omega
          obtain ⟨g, cc, hC⟩ := HC.out
          obtain ⟨o1, o2, o3⟩ := OK.out
          have h0 : 0 < (vs 0).length := by
            have h1 := (o3 0 (by omega)).2.2.2.1
            have h2 : 0 < ws 0 * hs 0 := Int.mul_pos (by omega) (by omega)
            omega
          have HP := Lib.hid (hC.pls (fun i hi => ⟨(o3 i hi).1, (o3 i hi).2.1, (o3 i hi).2.2.1⟩) h0)
          have HNN : Hid (((vs 0).length : Int) = ws 0 * hs 0) := Lib.hid (o3 0 (by omega)).2.2.2.1.symm
          obtain ⟨w', hw'⟩ : ∃ w' : Nat, ws 0 = (w' : Int) := ⟨(ws 0).toNat, by omega⟩
          have HWW := Lib.hid hw'
          have HGB : Hid (∀ i, i < 4 → sz + 1 < g i) := Lib.hid (fun i hi => by have := (hC.glt i hi).1; have := hC.ob; omega)
          have HF := Lib.hid hC.fo
          have HG9 := Lib.hid (G6.out.trans HW.out)
          have SZ9 : Hid (sz + 1 < wr.heap.size) := Lib.hid (by have h1 := HW.out.size; have h2 := SZ6.out; have h3 := HBS.out; omega)
          have hwn : (ws 0).toNat = w' := by omega
          have RVW : Hid (RW = (fun _ => ws 0) ∧ RH = (fun _ => hs 0) ∧ RV = fun i => (List.range (vs 0).length).map (drwL w' (hs 0) D (pic vs) i)) := Lib.hid (by
            have r0 := RE0.out
            obtain ⟨r1, r2, r3, r4⟩ := REQ.out
            rw [r0] at r1
            refine ⟨?_, ?_, ?_⟩
            · rw [← r2]; funext i; unfold ovW; rw [r1, if_pos rfl]
            · rw [← r3]; funext i; unfold ovH; rw [r1, if_pos rfl]
            · rw [← r4]; funext i; unfold ovV; rw [r1, if_pos rfl, hwn])
          have bw : 1 ≤ ws 0 ∧ ws 0 ≤ 256 := o1
          have bh : 1 ≤ hs 0 ∧ hs 0 ≤ 256 := o2
          clear HC HW hC o1 o2 o3 h0 hw' hwn OK G6 SZ6 HBS REQ L0
          rw [show ((4 : Nat) : Int) = (4 : Int) from rfl]
          go_wp2_with fail
          generalize wr = v9 at *
          generalize hnn : (vs 0).length = n at *
          have S0 : Hid (PutR (sz + 1) g cc n (ws 0) (hs 0) (drwL w' (hs 0) (D.take 0) (pic vs)) v9 v9) := Lib.hid ⟨HP.out, Kp.refl _ _⟩
          generalize pic vs = V0 at *
          go_loopw [53] (fun i wr => ∃ k : Nat, k ≤ D.length ∧ i = .int .i64 k ∧ Hid (PutR (sz + 1) g cc n (ws 0) (hs 0) (drwL w' (hs 0) (D.take k) V0) v9 wr)) (fun i _ => D.length - (intOf i).toNat)
          case atStart => exact ⟨0, by omega, rfl, S0⟩
          case round =>
            obtain ⟨k, hk, rfl, HR⟩ := hrel
            by_cases hkl : k < D.length
            · have BW := Lib.hid (HR.out.2.below (B := sz) (by have := SZ9.out; omega) (fun i hi => by have := HGB.out i hi; omega))
              obtain ⟨b, off, rfl, hb, hc⟩ := (HD.out.old (HG9.out.trans BW.out)) (by omega)
              obtain ⟨pa, pc, ⟨c0, c1, c2, c3, c4, c5, c6, c7, c8, c9⟩, hpts⟩ := hc k hkl
              have hok := ck_ok (OKD.out k hkl)
              have hst := drwL_step w' (hs 0) D V0 k hkl
              generalize drwL w' (hs 0) (D.take k) V0 = V1 at *
              obtain ⟨V2, hV2⟩ : ∃ V2, drwL w' (hs 0) (D.take (k + 1)) V0 = V2 := ⟨_, rfl⟩
              rw [hV2] at hst
              have HV2 := Lib.hid hV2
              clear hV2
              have q1 : (0 : Int) ≤ (k : Int) := by omega
              have q2 : (k : Int) < (D.length : Int) := by omega
              clear hc
              generalize D[k] = x at *
              obtain ⟨xk, x0, y0, x1, y1, l, xa, xb, xc, xd⟩ := x
              dsimp only at *
              obtain ⟨hk13, hbr, hl4, -, hn1, hn2, -⟩ := hok
              rw [nr_iff] at hn1 hn2
              have bz := below_al wr (.cells #[.int .i64 xk, .int .i64 x0, .int .i64 y0, .int .i64 x1, .int .i64 y1, .slice pa l.length pc, .int .i64 xa, .int .i64 xb, .int .i64 xc, .int .i64 xd] 27)
              have HB9 := Lib.hid bz
              by_cases hk2 : xk = 2
              · have hl0 : 0 < l.length := by
                  subst hk2
                  have : z4 x0 y0 x1 y1 = true ∧ 0 < l.length := by simpa [bareB] using hbr
                  exact this.2
                have ST : Hid (∀ v, Below wr.heap.size wr v → Calls Try.prog 35 #[.pointer (some ⟨sz + 1, 0, none⟩), .agg #[.int .i64 xk, .int .i64 x0, .int .i64 y0, .int .i64 x1, .int .i64 y1, .slice pa l.length pc, .int .i64 xa, .int .i64 xb, .int .i64 xc, .int .i64 xd]] v fun e u => e = .returned (.tuple #[]) ∧ PutR (sz + 1) g cc n (ws 0) (hs 0) V2 v u) :=
                  Lib.hid (fun v hv => by
                    rw [hst, drw_s hk2 HWW.out]
                    exact stroke_any xk x0 y0 x1 y1 l pa pc xa xb xc xd (ws 0) (hs 0) (sz + 1) n sz g cc V1 v (HR.out.1.later hv) HNN.out ⟨by omega, bw.2⟩ ⟨by omega, bh.2⟩ (hpts.old (hv.mono (by have := HR.out.2.size; have := SZ9.out; omega))) (by have := hv.size; have := HR.out.2.size; have := SZ9.out; omega) (fun i hi => by have := HGB.out i hi; omega) hl0 hl4)
                have d1 : (xk == 2) = true := by simpa using hk2
                clear hbr hk13 hn1 hn2 hpts hst bz
                clear hk2
                go_wp2_with fail
                refine (ST.out _ HB9.out).mono ?_
                rintro e u ⟨rfl, hu⟩
                have HR2 : Hid (PutR (sz + 1) g cc n (ws 0) (hs 0) V2 v9 u) := Lib.hid ⟨hu.1, (HR.out.2.on HB9.out).trans hu.2⟩
                clear ST hu HR BW HB9 c0 c1 c2 c3 c4 c5 c6 c7 c8 c9 d1
                go_wp2
                go_roundw
                case rel => exact ⟨k + 1, by omega, by go_num, by rw [HV2.out]; exact HR2⟩
                case measure => simp [intOf] <;> omega
              · have ST : Hid (∀ v, Below wr.heap.size wr v → Calls Try.prog 36 #[.pointer (some ⟨sz + 1, 0, none⟩), .agg #[.int .i64 xk, .int .i64 x0, .int .i64 y0, .int .i64 x1, .int .i64 y1, .slice pa l.length pc, .int .i64 xa, .int .i64 xb, .int .i64 xc, .int .i64 xd]] v fun e u => e = .returned (.tuple #[]) ∧ PutR (sz + 1) g cc n (ws 0) (hs 0) V2 v u) :=
                  Lib.hid (fun v hv => by
                    rw [hst, drw_f hk2]
                    exact fill_any xk x0 y0 x1 y1 (.slice pa l.length pc) xa xb xc xd (ws 0) (hs 0) (sz + 1) n w' g cc V1 v (HR.out.1.later hv) HNN.out bw bh HWW.out ⟨by omega, by omega⟩ ⟨by omega, by omega⟩ ⟨by omega, by omega⟩ ⟨by omega, by omega⟩)
                have d1 : (xk == 2) = false := by simpa using hk2
                clear hbr hk13 hn1 hn2 hpts hst bz
                clear hk2
                go_wp2_with fail
                refine (ST.out _ HB9.out).mono ?_
                rintro e u ⟨rfl, hu⟩
                have HR2 : Hid (PutR (sz + 1) g cc n (ws 0) (hs 0) V2 v9 u) := Lib.hid ⟨hu.1, (HR.out.2.on HB9.out).trans hu.2⟩
                clear ST hu HR BW HB9 c0 c1 c2 c3 c4 c5 c6 c7 c8 c9 d1
                go_wp2
                go_roundw
                case rel => exact ⟨k + 1, by omega, by go_num, by rw [HV2.out]; exact HR2⟩
                case measure => simp [intOf] <;> omega
            · have hke : k = D.length := by omega
              rw [hke, List.take_length] at HR
              have PR : Hid (PlR RW RH RV 0 w (.returned (.tuple #[.agg #[.int .i64 (ws 0), .int .i64 (hs 0), .slice (some ⟨g 0, 0, none⟩) n (cc 0), .int .i64 (ws 0), .int .i64 (hs 0), .slice (some ⟨g 1, 0, none⟩) n (cc 1), .int .i64 (ws 0), .int .i64 (hs 0), .slice (some ⟨g 2, 0, none⟩) n (cc 2), .int .i64 (ws 0), .int .i64 (hs 0), .slice (some ⟨g 3, 0, none⟩) n (cc 3)], .int .i64 0])) wr) :=
                Lib.hid (plR_good HR.out.1 (by rw [HSZ.out]; exact HG9.out.trans (HR.out.2.below (by have := SZ9.out; omega) (fun i hi => by have := HGB.out i hi; omega))) (fun i hi => by have := HGB.out i hi; have := HSZ.out; omega) RVW.out.1 RVW.out.2.1 RVW.out.2.2)
              have h0 : wr.cell? ⟨sz + 1, 0, none⟩ = some (.int .i64 (ws 0)) := HR.out.1.wd 0 (by omega)
              have h1 : wr.cell? ⟨sz + 1, 1, none⟩ = some (.int .i64 (hs 0)) := HR.out.1.ht 0 (by omega)
              have h2 : wr.cell? ⟨sz + 1, 2, none⟩ = some (.slice (some ⟨g 0, 0, none⟩) n (cc 0)) := HR.out.1.sl 0 (by omega)
              have h3 : wr.cell? ⟨sz + 1, 3, none⟩ = some (.int .i64 (ws 0)) := HR.out.1.wd 1 (by omega)
              have h4 : wr.cell? ⟨sz + 1, 4, none⟩ = some (.int .i64 (hs 0)) := HR.out.1.ht 1 (by omega)
              have h5 : wr.cell? ⟨sz + 1, 5, none⟩ = some (.slice (some ⟨g 1, 0, none⟩) n (cc 1)) := HR.out.1.sl 1 (by omega)
              have h6 : wr.cell? ⟨sz + 1, 6, none⟩ = some (.int .i64 (ws 0)) := HR.out.1.wd 2 (by omega)
              have h7 : wr.cell? ⟨sz + 1, 7, none⟩ = some (.int .i64 (hs 0)) := HR.out.1.ht 2 (by omega)
              have h8 : wr.cell? ⟨sz + 1, 8, none⟩ = some (.slice (some ⟨g 2, 0, none⟩) n (cc 2)) := HR.out.1.sl 2 (by omega)
              have h9 : wr.cell? ⟨sz + 1, 9, none⟩ = some (.int .i64 (ws 0)) := HR.out.1.wd 3 (by omega)
              have h10 : wr.cell? ⟨sz + 1, 10, none⟩ = some (.int .i64 (hs 0)) := HR.out.1.ht 3 (by omega)
              have h11 : wr.cell? ⟨sz + 1, 11, none⟩ = some (.slice (some ⟨g 3, 0, none⟩) n (cc 3)) := HR.out.1.sl 3 (by omega)
              have f0 : ∀ j, wr.frozen? ⟨sz + 1, j, none⟩ = false := fun j => (HR.out.2.frozen SZ9.out (fun i hi e => by have := HGB.out i hi; omega)).trans (HF.out j)
              have i0 := setCell_id h0
              have i1 := setCell_id h1
              have i2 := setCell_id h2
              have i3 := setCell_id h3
              have i4 := setCell_id h4
              have i5 := setCell_id h5
              have i6 := setCell_id h6
              have i7 := setCell_id h7
              have i8 := setCell_id h8
              have i9 := setCell_id h9
              have i10 := setCell_id h10
              have i11 := setCell_id h11
              have r0 := RE0.out
              subst r0
              clear HR HP S0 RVW HNN RE0
              go_wp2
              exact bodyPost_ret (v := .tuple #[.agg #[.int .i64 (ws 0), .int .i64 (hs 0), .slice (some ⟨g 0, 0, none⟩) n (cc 0), .int .i64 (ws 0), .int .i64 (hs 0), .slice (some ⟨g 1, 0, none⟩) n (cc 1), .int .i64 (ws 0), .int .i64 (hs 0), .slice (some ⟨g 2, 0, none⟩) n (cc 2), .int .i64 (ws 0), .int .i64 (hs 0), .slice (some ⟨g 3, 0, none⟩) n (cc 3)], .int .i64 0]) (by simp [results, Try.results21, go_sem, h0, h1, h2, h3, h4, h5, h6, h7, h8, h9, h10, h11]) rfl PR.out
end Go.Proofs.Ytjclioakdmilmaa
