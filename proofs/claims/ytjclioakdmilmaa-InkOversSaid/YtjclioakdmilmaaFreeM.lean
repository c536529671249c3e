/- Regions that draw their order, as in FreeL; instead of allocations: operations and calls that make something anew (a value that holds a property, in a world that has only grown), in any order. (made out of the texts of Free and FreeL) -/
import Derived.Test.YtjclioakdmilmaaFreeL
namespace Go.Proofs.Ytjclioakdmilmaa
open Go.RowKit
set_option linter.unusedVariables false
/-- a property of worlds that stays while they grow -/
def StabP : Type := { X : World → Prop // ∀ w w', X w → Below w.heap.size w w' → X w' }
def StabP.top : StabP := ⟨fun _ => True, fun _ _ _ _ => trivial⟩
def CP (w0 : World) (X : StabP) (w : World) : Prop := Below w0.heap.size w0 w ∧ X.1 w
def LaterP (w0 : World) (X : StabP) : Type := { v : World // CP w0 X v }
def LaterP.wd {w0 : World} {X : StabP} (m : LaterP w0 X) : World := m.1
theorem LaterP.cx {w0 : World} {X : StabP} (m : LaterP w0 X) : CP w0 X m.wd := m.2
theorem LaterP.below {w0 : World} {X : StabP} (m : LaterP w0 X) : Below w0.heap.size w0 m.wd := m.2.1
theorem LaterP.cell {w0 : World} {X : StabP} (m : LaterP w0 X) {p : Addr} {v : Value} (h : w0.cell? p = some v) : m.wd.cell? p = some v := by
  rw [m.cx.1.cell (World.block_lt_of_cell? w0 _ h)]; exact h
def InP (w0 : World) (X : StabP) (w' : World) : Prop := ∃ m : LaterP w0 X, w' = m.wd
theorem inP_iff {w0 : World} {X : StabP} {w : World} : InP w0 X w ↔ CP w0 X w := ⟨fun ⟨m, h⟩ => h ▸ m.cx, fun h => ⟨⟨w, h⟩, rfl⟩⟩
section
variable {P : Program}
theorem laterP_of {w0 : World} {X : StabP} {m : LaterP w0 X} {f : FuncId} {args : Array Value} {v : Value} (h : Calls P f args m.wd fun e w' => e = .returned v ∧ Below m.wd.heap.size m.wd w') :
    Calls P f args m.wd fun e w' => e = .returned v ∧ ∃ k : LaterP w0 X, w' = k.wd :=
  h.mono fun e w' ⟨he, hb⟩ => ⟨he, ⟨w', m.cx.1.trans (hb.mono m.cx.1.size), X.2 _ _ m.cx.2 hb⟩, rfl⟩
/-- what an operation makes -/
def makesUpon (P : Program) (R : Value → World → Prop) (w : World) : Result Next → Prop
  | .ok (.value v) w' => Below w.heap.size w w' ∧ R v w'
  | .ok (.enter f args) w' => w' = w ∧ Calls P f args w (fun e u => ∃ v, e = .returned v ∧ Below w.heap.size w u ∧ R v u)
  | _ => False
/-- the walk in the text's order: what each operation yields, whatever blocks there are besides -/
theorem pass_factsM {ops : Array Oper} {w0 : World} {A : Act} : ∀ (l : List Oper) (a : Act), (∀ X, Nonempty (LaterP w0 X) → wpQuiet P ops (InP w0 X) (fun a' => a' = A) l a) → (∀ o ∈ l, o.guard = none) → (∀ o ∈ l, ∃ d, o.dst = some d ∧ d < a.tmps.size) → l.Pairwise (fun o o' => o'.dst ≠ o.dst) →
    ∃ vs : List (Oper × Value), vs.map (·.1) = l ∧ putsL a vs = A ∧ ∀ pre p post, vs = pre ++ p :: post → ∀ X w, CP w0 X w → Oper.quietUpon P (InP w0 X) w p.2 ((execOp (putsL a pre).eval p.1).run P w)
  | [], a, h, _, _, _ => ⟨[], rfl, h StabP.top ⟨⟨w0, Below.refl _ _, trivial⟩⟩, fun pre p post h => by simp at h⟩
  | o :: l, a, h, hg, hd, hpw => by
    obtain ⟨d, hdst, hlt⟩ := hd o (by simp)
    have hn := (List.pairwise_cons.1 hpw).1
    have hX : ∀ X, Nonempty (LaterP w0 X) → ∃ v, (∀ w, InP w0 X w → o.quietAt P a (InP w0 X) w v) ∧ wpQuiet P ops (InP w0 X) (fun a' => a' = A) l (a.put o.dst v) := fun X hn => by
      have := h X hn
      unfold wpQuiet at this
      rw [if_pos (want_none (hg o (by simp)))] at this
      exact this
    have hv : ∀ X v, wpQuiet P ops (InP w0 X) (fun a' => a' = A) l (a.put o.dst v) → A.tmps[d]? = some v := fun X v hq => by
      rw [quiet_keep l _ hq (fun o ho => hg o (by simp [ho])) (fun o' ho => by rw [← hdst]; exact hn o' ho), hdst, slot_put _ _ _ hlt]
    obtain ⟨v, -, hq0⟩ := hX StabP.top ⟨⟨w0, Below.refl _ _, trivial⟩⟩
    have e0 := hv StabP.top v hq0
    have hall : ∀ X, Nonempty (LaterP w0 X) → (∀ w, InP w0 X w → o.quietAt P a (InP w0 X) w v) ∧ wpQuiet P ops (InP w0 X) (fun a' => a' = A) l (a.put o.dst v) := fun X hn => by
      obtain ⟨v', h1, h2⟩ := hX X hn
      have e1 := hv X v' h2
      rw [e0] at e1
      obtain rfl : v = v' := by simpa using e1
      exact ⟨h1, h2⟩
    obtain ⟨vs, m1, m2, m3⟩ := pass_factsM l (a.put o.dst v) (fun X hn => (hall X hn).2) (fun o ho => hg o (by simp [ho])) (fun o' ho => by rw [size_put]; exact hd o' (by simp [ho])) (List.pairwise_cons.1 hpw).2
    refine ⟨(o, v) :: vs, by simp [m1], m2, fun pre p post hvs X w hw => ?_⟩
    cases pre with
    | nil =>
      simp only [List.nil_append, List.cons.injEq] at hvs
      obtain ⟨rfl, rfl⟩ := hvs
      exact (hall X ⟨⟨w, hw⟩⟩).1 w (inP_iff.2 hw)
    | cons p' pre =>
      simp only [List.cons_append, List.cons.injEq] at hvs
      obtain ⟨rfl, hvs⟩ := hvs
      exact m3 pre p post hvs X w hw
def FreeInvM (ops : Array Oper) (opj : Nat → Oper) (V : Nat → Value) (R : Nat → Value → World → Prop) (m n : Nat) (A : Act) (w0 : World) (f : Nat) (listed : Array Bool) (a : Act) (w : World) : Prop :=
  HeadInv .any ops n listed ∧ ((List.range n).filter fun i => !listed.getD i true).length = f ∧
  ∃ (b : Act) (js : List Nat) (G : Nat → Value), putsL b (((List.range m).filter fun i => !listed.getD i true).map fun i => (opj i, V i)) = A ∧ a = putsL b (js.map fun j => (opj j, G j)) ∧
    js.Nodup ∧ (∀ j, j ∈ js ↔ m ≤ j ∧ j < n ∧ listed.getD j true = true) ∧ (Below w0.heap.size w0 w ∧ ∀ j ∈ js, R j (G j) w)
def stJ {R : Nat → Value → World → Prop} (hst : ∀ j v w w', R j v w → Below w.heap.size w w' → R j v w') (js : List Nat) (G : Nat → Value) : StabP := ⟨fun w => ∀ j ∈ js, R j (G j) w, fun w w' h hb j hj => hst j _ w w' (h j hj) hb⟩
/-- what has been made, in the text's order -/
def mks (G : Nat → Value) : Nat → List Oper → List (Oper × Value)
  | _, [] => []
  | j, o :: r => (o, G j) :: mks G (j + 1) r
theorem mks_map (G : Nat → Value) (opj : Nat → Oper) : ∀ (l : List Oper) (j : Nat), (∀ i (h : i < l.length), opj (j + i) = l[i]) → mks G j l = (List.range' j l.length).map fun i => (opj i, G i)
  | [], j, _ => rfl
  | o :: l, j, h => by
    have h0 := h 0 (by simp)
    simp only [Nat.add_zero, List.getElem_cons_zero] at h0
    have ih := mks_map G opj l (j + 1) fun i hi => by
      have := h (i + 1) (by simpa using hi)
      rw [show j + 1 + i = j + (i + 1) by omega, this]; rfl
    rw [List.length_cons, List.range'_succ, List.map_cons, ← ih, h0]; rfl
set_option maxHeartbeats 1000000 in
theorem free_runM {ops : Array Oper} {late : List Nat} {opj : Nat → Oper} {V : Nat → Value} {R : Nat → Value → World → Prop} (hst : ∀ j v w w', R j v w → Below w.heap.size w w' → R j v w') {m n g : Nat} {A a0 : Act} {w0 : World} {Q : Exit → Act → World → Prop} (hmn : m ≤ n) (hB : freeLB ops late m n = true) (hQ : ∀ c (a : Act) (d : Tmp) (v : Value) w, Q (.panic c) (a.put (some d) v) w → Q (.panic c) a w) (hop : ∀ i, i < n → ops[i]? = some (opj i))
    (hmk : ∀ j, m ≤ j → j < n → ∀ v, Below w0.heap.size w0 v → makesUpon P (R j) v ((execOp A.eval (opj j)).run P v))
    (hA : putsL a0 ((List.range m).map fun i => (opj i, V i)) = A)
    (hq : ∀ i, i < m → ∀ X w, CP w0 X w → Oper.quietUpon P (InP w0 X) w (V i) ((execOp (putsL a0 ((List.range i).map fun i => (opj i, V i))).eval (opj i)).run P w))
    (hend : ∀ listed a w, FreeInvM ops opj V R m n A w0 0 listed a w → wpAny P .any ops Q g listed a w) :
    ∀ (f : Nat) (listed : Array Bool) (a : Act) (w : World), FreeInvM ops opj V R m n A w0 f listed a w → wpAny P .any ops Q (f + g) listed a w := by
  have hsel : Region.noSelect ops = true := by unfold freeLB at hB; simp only [Bool.and_eq_true] at hB; exact hB.1
  have hn : n < ops.size := by unfold freeLB at hB; simp only [Bool.and_eq_true, decide_eq_true_eq] at hB; exact hB.2.1
  have hsink : ∀ t, n ≤ t → t < ops.size → ∀ k, k < n → k ∉ late → reachB ops 8 t k = true := by
    unfold freeLB at hB; simp only [Bool.and_eq_true] at hB
    intro t ht htl k hk hkl
    have h1 := List.all_eq_true.1 hB.2.2.1 t (List.mem_range.2 htl)
    simp only [Bool.or_eq_true, decide_eq_true_eq] at h1
    rcases h1 with h1 | h1
    · omega
    · have h2 := List.all_eq_true.1 h1 k (List.mem_range.2 hk)
      simp only [Bool.or_eq_true] at h2
      rcases h2 with h2 | h2
      · exact absurd (by simpa using h2) hkl
      · exact h2
  have hlate : ∀ i ∈ late, i < m ∧ isExtract (opj i) = true ∧ ∀ j oj, ops[j]? = some oj → j ≠ i → Region.waitsFor .any ops i j = true ∨ Region.waitsFor .any ops j i = true ∨ (opj i).apart ops oj = true := by
    have hB' := hB
    unfold freeLB at hB'; simp only [Bool.and_eq_true] at hB'
    intro i hi
    have h1 := List.all_eq_true.1 hB'.2.2.2.1 i hi
    simp only [Bool.and_eq_true, decide_eq_true_eq] at h1
    obtain ⟨h1, h2⟩ := h1
    rw [hop i (by omega)] at h2
    simp only [Bool.and_eq_true] at h2
    refine ⟨h1, h2.1, fun j oj hj hne => ?_⟩
    have h3 := List.all_eq_true.1 h2.2 j (List.mem_range.2 (Array.getElem?_eq_some_iff.1 hj).1)
    rw [hj] at h3
    simp only [Bool.or_eq_true, beq_iff_eq] at h3
    rcases h3 with h3 | h3 | h3 | h3
    · exact absurd h3 hne
    · exact .inl h3
    · exact .inr (.inl h3)
    · exact .inr (.inr h3)
  have hs : ∀ i, i < n → ∀ cs b, (opj i).op ≠ .select cs b := fun i hi cs b => Region.noSelect_spec hsel i _ cs b (hop i hi)
  have look : ∀ i k, i < n → k < n → ∀ d, (opj k).dst = some d → d ∈ (opj i).looksAt ops → k < i ∧ Region.waitsFor .any ops i k = true ∧ k < m := fun i k hi hk d hd hl => by
    obtain ⟨-, d', h1, h2, -⟩ := freeLB_look hB hi hk (hop i hi) (hop k hk)
    rw [hd] at h1
    obtain rfl : d = d' := by simpa using h1
    exact h2 hl
  have dif : ∀ i k, i < n → k < n → i ≠ k → ∀ d, (opj k).dst = some d → (opj i).dst ≠ some d := fun i k hi hk hne d hd => by
    obtain ⟨-, d', h1, -, h3⟩ := freeLB_look hB hi hk (hop i hi) (hop k hk)
    rw [hd] at h1
    obtain rfl : d = d' := by simpa using h1
    exact h3 hne
  intro f
  induction f with
  | zero => intro listed a w h; rw [Nat.zero_add]; exact hend listed a w h
  | succ f ih =>
    intro listed a w ⟨inv, hcount, b, js, G, hb, ha, hnd, hmem, hcx⟩
    rw [show f + 1 + g = (f + g) + 1 by omega]
    by_cases hL : ∃ i ∈ late, i ∈ Region.ready .any ops listed
    · -- an extraction that is ready is taken first
      obtain ⟨i, hil, hi⟩ := hL
      obtain ⟨him, hex, hapart⟩ := hlate i hil
      have hin : i < n := by omega
      have hun := (mem_ready.1 hi).1
      obtain ⟨x, y, e1, e2, hx, hy⟩ := rem_split hun hin
      have hcount2 : ((List.range n).filter fun k => !(listed.setIfInBounds i true).getD k true).length = f := by
        rw [e2]; rw [e1] at hcount; simp at hcount ⊢; omega
      have hguard : (opj i).guard = none := (freeLB_look hB hin hin (hop i hin) (hop i hin)).1
      have hi_notin : i ∉ js := fun h => by have := ((hmem i).1 h).2.2; rw [hun] at this; cases this
      have hjs : ∀ j ∈ js, m ≤ j ∧ j < n ∧ j ≠ i := fun j hj => ⟨((hmem j).1 hj).1, ((hmem j).1 hj).2.1, fun h => hi_notin (h ▸ hj)⟩
      have hset : ∀ k, (listed.setIfInBounds i true).getD k true = if k = i then true else listed.getD k true := fun k => by
        by_cases hki : k = i
        · subst hki
          rw [if_pos rfl]
          rcases Nat.lt_or_ge k listed.size with h | h
          · simp [h]
          · have := hin; have h2 := inv.size; omega
        · rw [if_neg hki]; exact getD_set_ne true (Ne.symm hki)
      obtain ⟨x, y, f1, f2, hx, hy⟩ := rem_split hun him
      rw [f1, List.map_append, List.map_cons, putsL_append] at hb
      have hb' : putsL (b.put (opj i).dst (V i)) ((x ++ y).map fun i => (opj i, V i)) = A := by
        rw [List.map_append, putsL_append, putsL_comm (opj i) (V i)]
        · exact hb
        · intro p hp d hd
          obtain ⟨k, hk, rfl⟩ := List.mem_map.1 hp
          exact dif k i (by have := (hx k hk).1; omega) hin (by have := (hx k hk).1; omega) d hd
      have ha' : ∀ v, a.put (opj i).dst v = putsL (b.put (opj i).dst v) (js.map fun j => (opj j, G j)) := fun v => by
        rw [ha, putsL_comm (opj i) v]
        intro p hp d hd
        obtain ⟨j, hj, rfl⟩ := List.mem_map.1 hp
        exact dif j i (hjs j hj).2.1 hin (hjs j hj).2.2 d hd
      have hexec : execOp a.eval (opj i) = execOp (putsL a0 ((List.range i).map fun i => (opj i, V i))).eval (opj i) := by
        have t1 : execOp a.eval (opj i) = execOp b.eval (opj i) := by
          rw [ha]
          refine execOp_puts (ops := ops) _ (hs i hin) _ _ fun p hp d hd hl => ?_
          obtain ⟨j, hj, rfl⟩ := List.mem_map.1 hp
          have h1 := (look i j hin (hjs j hj).2.1 d hd hl).2.2
          have h2 := (hjs j hj).1
          omega
        have t2 : execOp A.eval (opj i) = execOp b.eval (opj i) := by
          rw [← hb]
          rw [← List.map_cons (f := fun i => (opj i, V i)), ← putsL_append, ← List.map_append]
          refine execOp_puts (ops := ops) _ (hs i hin) _ _ fun p hp d hd hl => ?_
          obtain ⟨k, hk, rfl⟩ := List.mem_map.1 hp
          have hkn : k < n ∧ listed.getD k true = false := by
            rw [List.mem_append, List.mem_cons] at hk
            rcases hk with hk | rfl | hk
            · exact ⟨by have := (hx k hk).1; omega, (hx k hk).2⟩
            · exact ⟨hin, hun⟩
            · exact ⟨by have := (hy k hk).2.1; omega, (hy k hk).2.2⟩
          obtain ⟨h1, h2, -⟩ := look i k hin hkn.1 d hd hl
          obtain ⟨oj, hoj, e, he, hbd, hon⟩ := Region.waitsFor_spec h2
          obtain ⟨-, oi, hoi, hdone⟩ := mem_ready.1 hi
          have : oj = oi := Option.some.inj (hoj.symm.trans hoi)
          subst this
          have h3 := hdone e he hbd
          rw [hon, getD_both hkn.2] at h3
          cases h3
        have t3 : execOp A.eval (opj i) = execOp (putsL a0 ((List.range i).map fun i => (opj i, V i))).eval (opj i) := by
          rw [← hA]
          have hr : List.range m = List.range i ++ List.range' i (m - i) := by
            rw [List.range_eq_range', List.range_eq_range', show m = i + (m - i) by omega, ← List.range'_append_1]; simp
          rw [hr, List.map_append, putsL_append]
          refine execOp_puts (ops := ops) _ (hs i hin) _ _ fun p hp d hd hl => ?_
          obtain ⟨k, hk, rfl⟩ := List.mem_map.1 hp
          rw [List.mem_range'_1] at hk
          have := (look i k hin (by omega) d hd hl).1
          omega
        rw [t1, ← t2, t3]
      have hfact := hq i him (stJ hst js G) w hcx
      rw [← hexec] at hfact
      have go : ∀ w', CP w0 (stJ hst js G) w' → wpAny P .any ops Q (f + g) (listed.setIfInBounds i true) (a.put (opj i).dst (V i)) w' := fun w' hw' => by
        refine ih _ _ _ ⟨inv.set hi hin, hcount2, b.put (opj i).dst (V i), js, G, by rw [f2]; exact hb', ha' _, hnd, fun j => ?_, hw'⟩
        rw [hmem j, hset j]
        by_cases hji : j = i
        · subst hji; simp only [if_true]; constructor
          · intro h; omega
          · intro h; omega
        · rw [if_neg hji]
      have hyield : Yields P ops (opj i) (V i) a := by
        refine .inl ⟨want_none hguard, fun w' => extract_any hex (w := w) ?_ w'⟩
        have hnc := fun fn args w' => extract_enter (P := P) hex (a := a) (w := w) (w' := w') (f := fn) (args := args)
        have hns := fun w' => extract_skip (P := P) hex (a := a) (w := w) (w' := w')
        generalize (execOp a.eval (opj i)).run P w = r at *
        cases r with
        | ok nx w' =>
          cases nx <;> simp only [Oper.quietUpon] at hfact
          case value u => obtain ⟨h1, h2⟩ := hfact; rw [h1, h2]
          case skip => exact (hns w' rfl).elim
          case enter fn args => exact (hnc fn args w' rfl).elim
        | halt x w' => simp only [Oper.quietUpon] at hfact
      refine wpAny_first (hop i hin) (Region.noSelect_spec hsel) (fun c a w h => by obtain ⟨-, d, hd, -⟩ := freeLB_look hB hin hin (hop i hin) (hop i hin); rw [hd] at h; exact hQ c a d (V i) w h) _ listed a w (fun j oj hj hne hunj hno => ?_) hi hyield (go w hcx)
      rcases hapart j oj hj hne with h1 | h1 | h1
      · obtain ⟨oi, hoi, e, he, hbd, hon⟩ := Region.waitsFor_spec h1
        obtain ⟨-, oi', hoi', hdone⟩ := mem_ready.1 hi
        have : oi = oi' := Option.some.inj (hoi.symm.trans hoi')
        subst this
        have h3 := hdone e he hbd
        rw [hon, getD_both hunj] at h3
        cases h3
      · obtain ⟨oj', hoj', e, he, hbd, hon⟩ := Region.waitsFor_spec h1
        have : oj' = oj := Option.some.inj (hoj'.symm.trans hj)
        subst this
        exact absurd hon (hno e he hbd)
      · exact h1
    -- an operation of the head has not come up yet, and it is no late one
    obtain ⟨i1, hi1, hun1⟩ : ∃ i0, i0 < n ∧ listed.getD i0 true = false := by
      have : ((List.range n).filter fun i => !listed.getD i true) ≠ [] := by intro h; rw [h] at hcount; simp at hcount
      obtain ⟨x, hx⟩ := List.exists_mem_of_ne_nil _ this
      rw [List.mem_filter] at hx
      exact ⟨x, List.mem_range.1 hx.1, by simpa using hx.2⟩
    obtain ⟨i0, hi0, hun0, hnl0⟩ : ∃ i0, i0 < n ∧ listed.getD i0 true = false ∧ i0 ∉ late := by
      apply Classical.byContradiction
      intro hcon
      have key : ∀ k, k < n → listed.getD k true = false → False := by
        intro k
        induction k using Nat.strongRecOn with
        | _ k ihk =>
          intro hk hun
          have hkl : k ∈ late := Classical.byContradiction fun h => hcon ⟨k, hk, hun, h⟩
          refine hL ⟨k, hkl, ?_⟩
          rw [mem_ready]
          refine ⟨hun, opj k, hop k hk, fun e he hbd => ?_⟩
          have hlt := freeLB_deps hB (hop k hk) e he hbd
          cases hl : listed.getD e.on false with
          | true => rfl
          | false => exact (ihk e.on hlt (by omega) (getD_in (by rw [inv.size]; omega) hl)).elim
      exact key i1 hi1 hun1
    have tw : ∀ t, n ≤ t → t ∉ Region.ready .any ops listed := fun t ht hr => by
      obtain ⟨_, ot, hot, hall⟩ := mem_ready.1 hr
      have h3 := reach_listed inv _ _ _ (hsink t ht (Array.getElem?_eq_some_iff.1 hot).1 i0 hi0 hnl0) fun ot' hot' e he hbd => hall e (Option.some.inj (hot'.symm.trans hot) ▸ he) hbd
      rw [getD_both hun0] at h3
      cases h3
    refine ⟨fun h0 => ?_, fun i hi => ?_⟩
    · exfalso
      -- the least one is ready
      have key : ∀ k, k < n → listed.getD k true = false → False := by
        intro k
        induction k using Nat.strongRecOn with
        | _ k ihk =>
          intro hk hun
          have : k ∈ Region.ready .any ops listed := by
            rw [mem_ready]
            refine ⟨hun, opj k, hop k hk, fun e he hbd => ?_⟩
            have hlt := freeLB_deps hB (hop k hk) e he hbd
            cases hl : listed.getD e.on false with
            | true => rfl
            | false => exact (ihk e.on hlt (by omega) (getD_in (by rw [inv.size]; omega) hl)).elim
          rw [h0] at this; cases this
      exact key i0 hi0 hun0
    · have hin : i < n := by
        rcases Nat.lt_or_ge i n with h | h
        · exact h
        · exact absurd hi (tw i h)
      have hun := (mem_ready.1 hi).1
      obtain ⟨x, y, e1, e2, hx, hy⟩ := rem_split hun hin
      have hcount2 : ((List.range n).filter fun k => !(listed.setIfInBounds i true).getD k true).length = f := by
        rw [e2]; rw [e1] at hcount; simp at hcount ⊢; omega
      have hguard : (opj i).guard = none := (freeLB_look hB hin hin (hop i hin) (hop i hin)).1
      have hi_notin : i ∉ js := fun h => by have := ((hmem i).1 h).2.2; rw [hun] at this; cases this
      have hjs : ∀ j ∈ js, m ≤ j ∧ j < n ∧ j ≠ i := fun j hj => ⟨((hmem j).1 hj).1, ((hmem j).1 hj).2.1, fun h => hi_notin (h ▸ hj)⟩
      have hset : ∀ k, (listed.setIfInBounds i true).getD k true = if k = i then true else listed.getD k true := fun k => by
        by_cases hki : k = i
        · subst hki
          rw [if_pos rfl]
          rcases Nat.lt_or_ge k listed.size with h | h
          · simp [h]
          · have := hin; have h2 := inv.size; omega
        · rw [if_neg hki]; exact getD_set_ne true (Ne.symm hki)
      unfold wpOp
      rw [hop i hin]
      dsimp only
      rw [if_pos (want_none hguard)]
      refine .inl ?_
      rcases Nat.lt_or_ge i m with him | him
      · -- a quiet operation
        obtain ⟨x, y, f1, f2, hx, hy⟩ := rem_split hun him
        rw [f1, List.map_append, List.map_cons, putsL_append] at hb
        have hb' : putsL (b.put (opj i).dst (V i)) ((x ++ y).map fun i => (opj i, V i)) = A := by
          rw [List.map_append, putsL_append, putsL_comm (opj i) (V i)]
          · exact hb
          · intro p hp d hd
            obtain ⟨k, hk, rfl⟩ := List.mem_map.1 hp
            exact dif k i (by have := (hx k hk).1; omega) hin (by have := (hx k hk).1; omega) d hd
        have ha' : ∀ v, a.put (opj i).dst v = putsL (b.put (opj i).dst v) (js.map fun j => (opj j, G j)) := fun v => by
          rw [ha, putsL_comm (opj i) v]
          intro p hp d hd
          obtain ⟨j, hj, rfl⟩ := List.mem_map.1 hp
          exact dif j i (hjs j hj).2.1 hin (hjs j hj).2.2 d hd
        have hexec : execOp a.eval (opj i) = execOp (putsL a0 ((List.range i).map fun i => (opj i, V i))).eval (opj i) := by
          have t1 : execOp a.eval (opj i) = execOp b.eval (opj i) := by
            rw [ha]
            refine execOp_puts (ops := ops) _ (hs i hin) _ _ fun p hp d hd hl => ?_
            obtain ⟨j, hj, rfl⟩ := List.mem_map.1 hp
            have h1 := (look i j hin (hjs j hj).2.1 d hd hl).2.2
            have h2 := (hjs j hj).1
            omega
          have t2 : execOp A.eval (opj i) = execOp b.eval (opj i) := by
            rw [← hb]
            rw [← List.map_cons (f := fun i => (opj i, V i)), ← putsL_append, ← List.map_append]
            refine execOp_puts (ops := ops) _ (hs i hin) _ _ fun p hp d hd hl => ?_
            obtain ⟨k, hk, rfl⟩ := List.mem_map.1 hp
            have hkn : k < n ∧ listed.getD k true = false := by
              rw [List.mem_append, List.mem_cons] at hk
              rcases hk with hk | rfl | hk
              · exact ⟨by have := (hx k hk).1; omega, (hx k hk).2⟩
              · exact ⟨hin, hun⟩
              · exact ⟨by have := (hy k hk).2.1; omega, (hy k hk).2.2⟩
            obtain ⟨h1, h2, -⟩ := look i k hin hkn.1 d hd hl
            obtain ⟨oj, hoj, e, he, hbd, hon⟩ := Region.waitsFor_spec h2
            obtain ⟨-, oi, hoi, hdone⟩ := mem_ready.1 hi
            have : oj = oi := Option.some.inj (hoj.symm.trans hoi)
            subst this
            have h3 := hdone e he hbd
            rw [hon, getD_both hkn.2] at h3
            cases h3
          have t3 : execOp A.eval (opj i) = execOp (putsL a0 ((List.range i).map fun i => (opj i, V i))).eval (opj i) := by
            rw [← hA]
            have hr : List.range m = List.range i ++ List.range' i (m - i) := by
              rw [List.range_eq_range', List.range_eq_range', show m = i + (m - i) by omega, ← List.range'_append_1]; simp
            rw [hr, List.map_append, putsL_append]
            refine execOp_puts (ops := ops) _ (hs i hin) _ _ fun p hp d hd hl => ?_
            obtain ⟨k, hk, rfl⟩ := List.mem_map.1 hp
            rw [List.mem_range'_1] at hk
            have := (look i k hin (by omega) d hd hl).1
            omega
          rw [t1, ← t2, t3]
        have hfact := hq i him (stJ hst js G) w hcx
        rw [← hexec] at hfact
        have go : ∀ w', CP w0 (stJ hst js G) w' → wpAny P .any ops Q (f + g) (listed.setIfInBounds i true) (a.put (opj i).dst (V i)) w' := fun w' hw' => by
          refine ih _ _ _ ⟨inv.set hi hin, hcount2, b.put (opj i).dst (V i), js, G, by rw [f2]; exact hb', ha' _, hnd, fun j => ?_, hw'⟩
          rw [hmem j, hset j]
          by_cases hji : j = i
          · subst hji; simp only [if_true]; constructor
            · intro h; omega
            · intro h; omega
          · rw [if_neg hji]
        unfold Oper.wp
        generalize (execOp a.eval (opj i)).run P w = r at *
        cases r with
        | ok nx w' =>
          cases nx <;> simp only [Oper.quietUpon] at hfact <;> simp only [Oper.upon]
          case value u => obtain ⟨h1, h2⟩ := hfact; rw [h1, h2]; exact go w hcx
          case skip => obtain ⟨h1, h2⟩ := hfact; rw [h1, ← h2]; exact go w hcx
          case enter fn args =>
            obtain ⟨h1, hc⟩ := hfact
            rw [h1]
            exact hc.mono fun e w'' ⟨he, hw''⟩ => by subst he; exact go w'' (inP_iff.1 hw'')
        | halt x w' => simp only [Oper.quietUpon] at hfact
      · -- something is made
        have t1 : execOp a.eval (opj i) = execOp b.eval (opj i) := by
          rw [ha]
          refine execOp_puts (ops := ops) _ (hs i hin) _ _ fun p hp d hd hl => ?_
          obtain ⟨j, hj, rfl⟩ := List.mem_map.1 hp
          have h1 := (look i j hin (hjs j hj).2.1 d hd hl).2.2
          have h2 := (hjs j hj).1
          omega
        have t2 : execOp A.eval (opj i) = execOp b.eval (opj i) := by
          rw [← hb]
          refine execOp_puts (ops := ops) _ (hs i hin) _ _ fun p hp d hd hl => ?_
          obtain ⟨k, hk, rfl⟩ := List.mem_map.1 hp
          rw [List.mem_filter, List.mem_range] at hk
          have hkn : k < n ∧ listed.getD k true = false := ⟨by omega, by simpa using hk.2⟩
          obtain ⟨h1, h2, -⟩ := look i k hin hkn.1 d hd hl
          obtain ⟨oj, hoj, e, he, hbd, hon⟩ := Region.waitsFor_spec h2
          obtain ⟨-, oi, hoi, hdone⟩ := mem_ready.1 hi
          have : oj = oi := Option.some.inj (hoj.symm.trans hoi)
          subst this
          have h3 := hdone e he hbd
          rw [hon, getD_both hkn.2] at h3
          cases h3
        have hfact := hmk i him hin w hcx.1
        rw [t2, ← t1] at hfact
        have go : ∀ v w', Below w.heap.size w w' → R i v w' → wpAny P .any ops Q (f + g) (listed.setIfInBounds i true) (a.put (opj i).dst v) w' := fun v w' hbw hR => by
          have hG : ∀ j ∈ js, (if j = i then v else G j) = G j := fun j hj => if_neg (hjs j hj).2.2
          refine ih _ _ _ ⟨inv.set hi hin, hcount2, b, js ++ [i], fun j => if j = i then v else G j, by rw [rem_same him]; exact hb, ?_, ?_, fun j => ?_, hcx.1.trans (hbw.mono hcx.1.size), fun j hj => ?_⟩
          · rw [List.map_append, putsL_append, ha]
            have : (js.map fun j => (opj j, if j = i then v else G j)) = js.map fun j => (opj j, G j) := List.map_congr_left fun j hj => by rw [hG j hj]
            rw [this]
            simp [putsL]
          · rw [List.nodup_append]
            exact ⟨hnd, by simp, fun a ha b hb => by simp at hb; subst hb; exact (hjs a ha).2.2⟩
          · rw [List.mem_append, hmem j, hset j]
            by_cases hji : j = i
            · subst hji; simp; omega
            · rw [if_neg hji]; simp [hji]
          · rw [List.mem_append] at hj
            rcases hj with hj | hj
            · dsimp only; rw [hG j hj]; exact hst j _ w w' (hcx.2 j hj) hbw
            · simp at hj; subst hj; dsimp only; rw [if_pos rfl]; exact hR
        unfold Oper.wp
        generalize (execOp a.eval (opj i)).run P w = r at *
        cases r with
        | ok nx w' =>
          cases nx <;> simp only [makesUpon] at hfact <;> simp only [Oper.upon]
          case value u => exact go u w' hfact.1 hfact.2
          case enter fn args =>
            obtain ⟨h1, hc⟩ := hfact
            rw [h1]
            exact hc.mono fun e w'' ⟨v, he, hbw, hR⟩ => by subst he; exact go v w'' hbw hR
        | halt x w' => simp only [makesUpon] at hfact
/-- **ONE WALK SERVES EVERY ORDER**, allocations among the calls included: behind the quiet operations the frame is A; the new blocks' numbers are whatever they are. -/
theorem any_freeM {Q : Exit → Act → World → Prop} {a0 : Act} {w : World} {l : List Oper} (late : List Nat) (m n : Nat) (R : Nat → Value → World → Prop) (hst : ∀ j v w w', R j v w → Below w.heap.size w w' → R j v w') (hmn : m ≤ n) (hB : freeLB l.toArray late m n = true) (hQ : ∀ c (a : Act) (d : Tmp) (v : Value) w, Q (.panic c) (a.put (some d) v) w → Q (.panic c) a w)
    (hsz : ∀ i, i < m → ∀ o, l[i]? = some o → ∀ d, o.dst = some d → d < a0.tmps.size)
    (A : Act) (hq : ∀ X, Nonempty (LaterP w X) → wpQuiet P l.toArray (InP w X) (fun a' => a' = A) (l.take m) a0)
    (hmk : ∀ j, m ≤ j → j < n → ∀ o, l[j]? = some o → ∀ v, Below w.heap.size w v → makesUpon P (R j) v ((execOp A.eval o).run P v))
    (hfin : ∀ (G : Nat → Value) (w' : World), Below w.heap.size w w' → (∀ j, m ≤ j → j < n → R j (G j) w') →
      wpList P l.toArray Q (l.drop n) (putsL A (mks G m ((l.take n).drop m))) w') :
    wpAny P .any l.toArray Q l.toArray.size (Array.replicate l.toArray.size false) a0 { w with drawn := w.drawn + 1 } := by
  have hn : n < l.toArray.size := by have h := hB; unfold freeLB at h; simp only [Bool.and_eq_true, decide_eq_true_eq] at h; exact h.2.1
  have hseq : Region.seqB .any l.toArray (l.toArray.size - n) n (Array.replicate n true ++ Array.replicate (l.toArray.size - n) false) = true := by
    have h := hB; unfold freeLB at h; simp only [Bool.and_eq_true] at h; exact h.2.2.2.2.2.2
  have hnl : n < l.length := by simpa using hn
  obtain ⟨o0, ho0⟩ : ∃ o0 : Oper, o0 ∈ l := List.exists_mem_of_ne_nil _ (by intro h; rw [h] at hnl; simp at hnl)
  obtain ⟨opj, hopj⟩ : ∃ opj : Nat → Oper, opj = fun i => l.getD i o0 := ⟨_, rfl⟩
  have hop' : ∀ i, i < n → l[i]? = some (opj i) := fun i hi => by
    have : i < l.length := by omega
    rw [hopj]; simp [this]
  have hop : ∀ i, i < n → l.toArray[i]? = some (opj i) := fun i hi => by simpa using hop' i hi
  have htl : (l.take m).length = m := by simp; omega
  have mem_take : ∀ o ∈ l.take m, ∃ i, i < m ∧ l[i]? = some o := fun o ho => by
    obtain ⟨i, hi, he⟩ := List.getElem_of_mem ho
    rw [htl] at hi
    refine ⟨i, hi, ?_⟩
    rw [← he]; simp
  obtain ⟨vs, v1, v2, v3⟩ := pass_factsM (P := P) (ops := l.toArray) (w0 := w) (A := A) (l.take m) a0 hq
    (fun o ho => by
      obtain ⟨i, hi, he⟩ := mem_take o ho
      exact (freeLB_look hB (show i < n by omega) (show i < n by omega) (by simpa using he) (by simpa using he)).1)
    (fun o ho => by
      obtain ⟨i, hi, he⟩ := mem_take o ho
      obtain ⟨-, d, h1, -⟩ := freeLB_look hB (show i < n by omega) (show i < n by omega) (oi := o) (ok := o) (by simpa using he) (by simpa using he)
      exact ⟨d, h1, hsz i hi o he d h1⟩)
    (List.pairwise_iff_getElem.2 fun i j hi hj hij => by
      rw [htl] at hi hj
      obtain ⟨-, d, h1, -, h2⟩ := freeLB_look hB (show j < n by omega) (show i < n by omega) (oi := (l.take m)[j]) (ok := (l.take m)[i]) (by simp) (by simp)
      rw [h1]; exact h2 (by omega))
  have hvl : vs.length = m := by rw [← htl, ← v1]; simp
  obtain ⟨V, hV⟩ : ∃ V : Nat → Value, V = fun i => (vs[i]?.map (·.2)).getD undef := ⟨_, rfl⟩
  have hvs : vs = (List.range m).map fun i => (opj i, V i) := by
    apply List.ext_getElem
    · simp [hvl]
    · intro i h1 h2
      rw [hvl] at h1
      have e1 : (vs.map (·.1))[i]? = (l.take m)[i]? := by rw [v1]
      have e2 : (l.take m)[i]? = some (opj i) := by rw [List.getElem?_take_of_lt h1]; exact hop' i (by omega)
      rw [e2] at e1
      have hi : i < vs.length := by omega
      simp [hi] at e1
      simp [hV, hi]
      rw [← e1]
  have inv0 : HeadInv .any l.toArray n (Array.replicate l.toArray.size false) :=
    ⟨by simp, fun j oj _ hl => (by rw [getD_replicate_false] at hl; cases hl), fun t _ ht => getD_in (by simpa using ht) (getD_replicate_false _ _)⟩
  have hr0 : ∀ k, k < l.toArray.size → (Array.replicate l.toArray.size false).getD k true = false := fun k hk => getD_in (by simpa using hk) (getD_replicate_false _ _)
  have start : FreeInvM l.toArray opj V R m n A w n (Array.replicate l.toArray.size false) a0 { w with drawn := w.drawn + 1 } := by
    refine ⟨inv0, ?_, a0, [], fun _ => undef, ?_, rfl, List.nodup_nil, fun j => ?_, ⟨⟨rfl, rfl, rfl, Nat.le_refl _, fun _ _ => rfl⟩, fun j hj => by simp at hj⟩⟩
    · rw [List.filter_eq_self.2 fun k hk => by rw [hr0 k (by have := List.mem_range.1 hk; omega)]; rfl]; simp
    · rw [List.filter_eq_self.2 fun k hk => by rw [hr0 k (by have := List.mem_range.1 hk; omega)]; rfl, ← hvs]; exact v2
    · constructor
      · intro h; cases h
      · intro ⟨_, h1, h2⟩; rw [hr0 j (by omega)] at h2; cases h2
  have hdl : (l.drop n).length = l.toArray.size - n := by simp
  have run := free_runM (P := P) (hst := hst) (late := late) (ops := l.toArray) (opj := opj) (V := V) (R := R) (m := m) (n := n) (g := l.toArray.size - n) (A := A) (a0 := a0) (w0 := w) (Q := Q) hmn hB hQ hop
    (fun j h1 h2 v hv => hmk j h1 h2 _ (hop' j h2) v hv) (by rw [← hvs]; exact v2)
    (fun i hi X w' hw' => by
      have hr : List.range m = List.range i ++ i :: List.range' (i + 1) (m - i - 1) := by
        rw [List.range_eq_range', List.range_eq_range', show m = i + (m - i - 1 + 1) by omega, ← List.range'_append_1, List.range'_succ]; simp
      exact v3 ((List.range i).map fun i => (opj i, V i)) (opj i, V i) ((List.range' (i + 1) (m - i - 1)).map fun i => (opj i, V i)) (by rw [hvs, hr]; simp) X w' hw')
    (fun listed a w' hI => by
      obtain ⟨inv, hcount, b, js, G, hb, ha, hnd, hmem, hcx⟩ := hI
      have hdone : ∀ k, k < n → listed.getD k true = true := fun k hk => by
        cases h : listed.getD k true with
        | true => rfl
        | false =>
          have : k ∈ (List.range n).filter fun i => !listed.getD i true := List.mem_filter.2 ⟨List.mem_range.2 hk, by rw [h]; rfl⟩
          rw [List.length_eq_zero_iff.1 hcount] at this; cases this
      have hrm : ((List.range m).filter fun i => !listed.getD i true) = [] := List.filter_eq_nil_iff.2 fun k hk => by rw [hdone k (by have := List.mem_range.1 hk; omega)]; simp
      rw [hrm] at hb
      have hbA : b = A := hb
      subst hbA
      have hperm : js.Perm (List.range' m (n - m)) := (List.perm_ext_iff_of_nodup hnd List.nodup_range').2 fun j => by
        rw [hmem j, List.mem_range'_1]
        constructor
        · intro ⟨h1, h2, _⟩; omega
        · intro ⟨h1, h2⟩; exact ⟨h1, by omega, hdone j (by omega)⟩
      have hjs : ∀ j, m ≤ j → j < n → j ∈ js := fun j h1 h2 => (hmem j).2 ⟨h1, h2, hdone j h2⟩
      have hlen : ((l.take n).drop m).length = n - m := by simp; omega
      have ha2 : a = putsL b (mks G m ((l.take n).drop m)) := by
        rw [ha, mks_map G opj ((l.take n).drop m) m (fun i hi => by
          rw [hlen] at hi
          have h1 := hop' (m + i) (by omega)
          have h2 : ((l.take n).drop m)[i]? = some (opj (m + i)) := by rw [List.getElem?_drop, List.getElem?_take_of_lt (by omega)]; exact h1
          have h3 := (List.getElem?_eq_some_iff.1 h2)
          exact h3.2.symm), hlen]
        refine putsL_perm (hperm.map _) _ ?_
        rw [List.pairwise_map]
        refine List.Pairwise.imp_of_mem (fun {x y} hx hy hxy => ?_) hnd
        intro d hd he
        obtain ⟨-, d', h1, -, h2⟩ := freeLB_look hB ((hmem x).1 hx).2.1 ((hmem y).1 hy).2.1 (hop x ((hmem x).1 hx).2.1) (hop y ((hmem y).1 hy).2.1)
        dsimp only at hd he
        rw [he] at h1
        obtain rfl : d = d' := by simpa using h1
        exact h2 hxy hd
      have hlist : listed = Array.replicate n true ++ Array.replicate (l.toArray.size - n) false := by
        apply Array.ext
        · rw [inv.size]; simp; omega
        · intro k h1 h2
          by_cases hk : k < n
          · have := hdone k hk
            simp [h1] at this
            rw [this, Array.getElem_append_left (by simpa using hk)]; simp
          · have := inv.tail k (by omega) (by rw [← inv.size]; exact h1)
            simp [h1] at this
            rw [this, Array.getElem_append_right (by simp; omega)]; simp
      have ht := hfin G w' hcx.1 (fun j h1 h2 => hcx.2 j (hjs j h1 h2))
      rw [ha2, ← hdl]
      exact wpAny_of_seq (md := .any) (Q' := Q) (l.drop n) n listed _ w' (fun j => by simp [List.getElem?_drop]) (by rw [hdl, hlist]; exact hseq) ht) n _ a0 _ start
  rw [show n + (l.toArray.size - n) = l.toArray.size by omega] at run
  exact run
/-- the same, the side conditions as Bools -/
theorem anyT_freeM {Q : Exit → Act → World → Prop} {a0 : Act} {w : World} {l : List Oper} (late : List Nat) (m n N : Nat) (R : Nat → Value → World → Prop) (hst : ∀ j v w w', R j v w → Below w.heap.size w w' → R j v w') (hmn : m ≤ n) (hB : freeLB l.toArray late m n = true) (hQ : ∀ c (a : Act) (d : Tmp) (v : Value) w, Q (.panic c) (a.put (some d) v) w → Q (.panic c) a w)
    (hN : a0.tmps.size = N) (hszB : dstB N (l.take m) = true)
    (h : ∃ A : Act, (∀ X, Nonempty (LaterP w X) → wpQuiet P l.toArray (fun w' => ∃ m : LaterP w X, w' = m.wd) (fun a' => a' = A) (l.take m) a0) ∧
      (∀ j, m ≤ j → j < n → ∀ o, l[j]? = some o → ∀ v, Below w.heap.size w v → makesUpon P (R j) v ((execOp A.eval o).run P v)) ∧
      (∀ (G : Nat → Value) (w' : World), Below w.heap.size w w' → (∀ j, m ≤ j → j < n → R j (G j) w') →
      wpList P l.toArray Q (l.drop n) (putsL A (mks G m ((l.take n).drop m))) w')) :
    wpAny P .any l.toArray Q l.toArray.size (Array.replicate l.toArray.size false) a0 { w with drawn := w.drawn + 1 } := by
  obtain ⟨A, hq, hmk, hfin⟩ := h
  refine any_freeM late m n R hst hmn hB hQ (fun i hi o ho d hd => ?_) A hq hmk hfin
  unfold dstB at hszB
  rw [List.all_eq_true] at hszB
  have h := hszB o (List.mem_iff_getElem?.2 ⟨i, by rw [List.getElem?_take_of_lt hi]; exact ho⟩)
  rw [hd] at h
  rw [hN]; simpa using h
theorem region_freeM {id : Nat} {Q : Exit → Act → World → Prop} {a0 : Act} {w : World} {l : List Oper} (late : List Nat) (m n N : Nat) (R : Nat → Value → World → Prop) (hst : ∀ j v w w', R j v w → Below w.heap.size w w' → R j v w') (hm : P.follows .mixedOrders = true) (hmn : m ≤ n) (hB : freeLB l.toArray late m n = true) (hQ : ∀ c (a : Act) (d : Tmp) (v : Value) w, Q (.panic c) (a.put (some d) v) w → Q (.panic c) a w)
    (hN : a0.tmps.size = N) (hszB : dstB N (l.take m) = true)
    (h : ∃ A : Act, (∀ X, Nonempty (LaterP w X) → wpQuiet P l.toArray (fun w' => ∃ m : LaterP w X, w' = m.wd) (fun a' => a' = A) (l.take m) a0) ∧
      (∀ j, m ≤ j → j < n → ∀ o, l[j]? = some o → ∀ v, Below w.heap.size w v → makesUpon P (R j) v ((execOp A.eval o).run P v)) ∧
      (∀ (G : Nat → Value) (w' : World), Below w.heap.size w w' → (∀ j, m ≤ j → j < n → R j (G j) w') →
      wpList P l.toArray Q (l.drop n) (putsL A (mks G m ((l.take n).drop m))) w')) :
    (Code.region id l.toArray true).wp P Q a0 w := wp_region_any hm (anyT_freeM late m n N R hst hmn hB hQ hN hszB h)
theorem makes_call {R : Value → World → Prop} {w : World} {f : FuncId} {args : Array Value} {E : Ending → World → Prop} (h : Calls P f args w E) (hE : ∀ e u, E e u → ∃ v, e = .returned v ∧ Below w.heap.size w u ∧ R v u) : makesUpon P R w (.ok (.enter f args) w) :=
  ⟨rfl, h.mono hE⟩
end
end Go.Proofs.Ytjclioakdmilmaa
