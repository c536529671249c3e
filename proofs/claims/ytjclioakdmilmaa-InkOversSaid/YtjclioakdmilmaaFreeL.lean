/- Regions that draw their order, as in Free; some extractions of the head may come behind the tail's first operations. (printed by mkfreel.py) -/
import Derived.Test.YtjclioakdmilmaaFree
namespace Go.Proofs.Ytjclioakdmilmaa
open Go.RowKit
set_option linter.unusedVariables false
section
variable {P : Program}
def isExtract (o : Oper) : Bool := match o.op with | .extract _ _ => true | .move _ => true | _ => false
theorem extract_any {o : Oper} (h : isExtract o = true) {a : Act} {v : Value} {w : World} (hr : (execOp a.eval o).run P w = .ok (.value v) w) (w' : World) : (execOp a.eval o).run P w' = .ok (.value v) w' := by
  unfold isExtract at h
  cases hop : o.op <;> rw [hop] at h <;> simp at h
  case extract =>
    simp only [execOp, hop, Instr.extract] at hr ⊢
    generalize a.eval _ = x at *
    cases x <;> simp [go_sem] at hr ⊢
    all_goals (repeat' split at hr) <;> simp_all [go_sem]
  case move =>
    simp only [execOp, hop] at hr ⊢
    simp [go_sem] at hr ⊢
    simp_all [go_sem]
theorem extract_skip {o : Oper} (h : isExtract o = true) {a : Act} {w w' : World} (hr : (execOp a.eval o).run P w = .ok .skip w') : False := by
  unfold isExtract at h
  cases hop : o.op <;> rw [hop] at h <;> simp at h
  case extract =>
    simp only [execOp, hop, Instr.extract] at hr
    generalize a.eval _ = x at *
    cases x <;> simp [go_sem] at hr
    all_goals (repeat' split at hr) <;> simp_all [go_sem]
  case move =>
    simp only [execOp, hop] at hr
    simp [go_sem] at hr
theorem extract_enter {o : Oper} (h : isExtract o = true) {a : Act} {w w' : World} {f : FuncId} {args : Array Value} (hr : (execOp a.eval o).run P w = .ok (.enter f args) w') : False := by
  unfold isExtract at h
  cases hop : o.op <;> rw [hop] at h <;> simp at h
  case extract =>
    simp only [execOp, hop, Instr.extract] at hr
    generalize a.eval _ = x at *
    cases x <;> simp [go_sem] at hr
    all_goals (repeat' split at hr) <;> simp_all [go_sem]
  case move =>
    simp only [execOp, hop] at hr
    simp [go_sem] at hr
/-- operation t waits for operation k, perhaps by way of others -/
def reachB (ops : Array Oper) : Nat → Nat → Nat → Bool
  | 0, _, _ => false
  | f + 1, t, k => Region.waitsFor .any ops t k || (List.range ops.size).any fun j => Region.waitsFor .any ops t j && reachB ops f j k
theorem reach_listed {ops : Array Oper} {n : Nat} {listed : Array Bool} (inv : HeadInv .any ops n listed) : ∀ (f t k : Nat), reachB ops f t k = true → (∀ ot, ops[t]? = some ot → ∀ e ∈ ot.after, Region.binds .any e = true → listed.getD e.on false = true) → listed.getD k false = true := by
  intro f
  induction f with
  | zero => intro t k h _; simp [reachB] at h
  | succ f ih =>
    intro t k h hall
    unfold reachB at h
    rw [Bool.or_eq_true] at h
    rcases h with h | h
    · obtain ⟨ot, hot, e, he, hbd, hon⟩ := Region.waitsFor_spec h
      rw [← hon]; exact hall ot hot e he hbd
    · obtain ⟨j, -, h2⟩ := List.any_eq_true.1 h
      rw [Bool.and_eq_true] at h2
      obtain ⟨ot, hot, e, he, hbd, hon⟩ := Region.waitsFor_spec h2.1
      have hj : listed.getD j false = true := by rw [← hon]; exact hall ot hot e he hbd
      exact ih j k h2.2 fun oj hoj => inv.closed j oj hoj hj
/-- what a region must be like: m quiet operations, n - m allocations, a tail; the operations in 'late' are extractions that the tail need not wait for -/
def freeLB (ops : Array Oper) (late : List Nat) (m n : Nat) : Bool :=
  Region.noSelect ops && (decide (n < ops.size) && (((List.range ops.size).all fun t => decide (t < n) || (List.range n).all fun k => late.contains k || reachB ops 8 t k) && ((late.all fun i => decide (i < m) && (match ops[i]? with
      | some oi => isExtract oi && (List.range ops.size).all fun j => j == i || (match ops[j]? with
        | some oj => Region.waitsFor .any ops i j || (Region.waitsFor .any ops j i || oi.apart ops oj)
        | none => true)
      | none => false)) &&
  (((List.range n).all fun i => match ops[i]? with
    | some oi => oi.guard.isNone && (List.range n).all fun k => match ops[k]? with
      | some ok => (match ok.dst with
        | some d => (!(oi.looksAt ops).contains d || (decide (k < i) && (Region.waitsFor .any ops i k && decide (k < m)))) && (i == k || oi.dst != some d)
        | none => false)
      | none => false
    | none => false) &&
  (((List.range ops.size).all fun i => match ops[i]? with | some o => o.after.all (fun e => !Region.binds .any e || decide (e.on < i)) | none => true) &&
  Region.seqB .any ops (ops.size - n) n (Array.replicate n true ++ Array.replicate (ops.size - n) false))))))
theorem freeLB_look {ops : Array Oper} {late : List Nat} {m n i k : Nat} {oi ok : Oper} (h : freeLB ops late m n = true) (hi : i < n) (hk : k < n) (hoi : ops[i]? = some oi) (hok : ops[k]? = some ok) :
    oi.guard = none ∧ ∃ d, ok.dst = some d ∧ (d ∈ oi.looksAt ops → k < i ∧ Region.waitsFor .any ops i k = true ∧ k < m) ∧ (i ≠ k → oi.dst ≠ some d) := by
  unfold freeLB at h
  simp only [Bool.and_eq_true] at h
  have h1 := h.2.2.2.2.1
  rw [List.all_eq_true] at h1
  have h2 := h1 i (List.mem_range.2 hi)
  rw [hoi] at h2
  simp only [Bool.and_eq_true, List.all_eq_true, List.mem_range] at h2
  obtain ⟨hg, h3⟩ := h2
  have h4 := h3 k hk
  rw [hok] at h4
  dsimp only at h4
  refine ⟨by simpa using hg, ?_⟩
  cases hd : ok.dst with
  | none => rw [hd] at h4; simp at h4
  | some d =>
    rw [hd] at h4
    simp only [Bool.and_eq_true, Bool.or_eq_true, Bool.not_eq_true', decide_eq_true_eq, beq_iff_eq, bne_iff_ne] at h4
    refine ⟨d, rfl, fun hl => ?_, fun hne => ?_⟩
    · rcases h4.1 with h5 | h5
      · exact absurd hl (by simpa using h5)
      · exact h5
    · rcases h4.2 with h5 | h5
      · exact absurd h5 hne
      · exact h5
theorem freeLB_deps {ops : Array Oper} {late : List Nat} {m n i : Nat} {o : Oper} (h : freeLB ops late m n = true) (ho : ops[i]? = some o) : ∀ e ∈ o.after, Region.binds .any e = true → e.on < i := by
  unfold freeLB at h
  simp only [Bool.and_eq_true] at h
  have h1 := h.2.2.2.2.2.1
  rw [List.all_eq_true] at h1
  have h2 := h1 i (List.mem_range.2 (Array.getElem?_eq_some_iff.1 ho).1)
  rw [ho] at h2
  dsimp only at h2
  intro e he hb
  have h3 := Array.all_eq_true_iff_forall_mem.1 h2 e he
  simp only [Bool.or_eq_true, Bool.not_eq_true', decide_eq_true_eq] at h3
  rcases h3 with h3 | h3
  · rw [hb] at h3; cases h3
  · exact h3
set_option maxHeartbeats 1000000 in
theorem free_runL {ops : Array Oper} {late : List Nat} {opj : Nat → Oper} {V : Nat → Value} {obj : Nat → Obj} {m n g : Nat} {A a0 : Act} {w0 : World} {Q : Exit → Act → World → Prop} (hmn : m ≤ n) (hB : freeLB ops late m n = true) (hQ : ∀ c (a : Act) (d : Tmp) (v : Value) w, Q (.panic c) (a.put (some d) v) w → Q (.panic c) a w) (hop : ∀ i, i < n → ops[i]? = some (opj i))
    (hal : ∀ j, m ≤ j → j < n → ∀ (a : Act) (v : World), (execOp a.eval (opj j)).run P v = .ok (.value (.pointer (some ⟨v.heap.size, 0, none⟩))) (v.alloc (obj j)))
    (hA : putsL a0 ((List.range m).map fun i => (opj i, V i)) = A)
    (hq : ∀ i, i < m → ∀ X w, CX w0 X w → Oper.quietUpon P (InX w0 X) w (V i) ((execOp (putsL a0 ((List.range i).map fun i => (opj i, V i))).eval (opj i)).run P w))
    (hend : ∀ listed a w, FreeInv ops opj V obj m n A w0 0 listed a w → wpAny P .any ops Q g listed a w) :
    ∀ (f : Nat) (listed : Array Bool) (a : Act) (w : World), FreeInv ops opj V obj m n A w0 f listed a w → wpAny P .any ops Q (f + g) listed a w := by
  have hsel : Region.noSelect ops = true := by unfold freeLB at hB; simp only [Bool.and_eq_true] at hB; exact hB.1
  have hn : n < ops.size := by unfold freeLB at hB; simp only [Bool.and_eq_true, decide_eq_true_eq] at hB; exact hB.2.1
  have hsink : ∀ t, n ≤ t → t < ops.size → ∀ k, k < n → k ∉ late → reachB ops 8 t k = true := by
    unfold freeLB at hB; simp only [Bool.and_eq_true] at hB
    intro t ht htl k hk hkl
    have h1 := List.all_eq_true.1 hB.2.2.1 t (List.mem_range.2 htl)
    simp only [Bool.or_eq_true, decide_eq_true_eq] at h1
    rcases h1 with h1 | h1
    · omega
    · have h2 := List.all_eq_true.1 h1 k (List.mem_range.2 hk)
      simp only [Bool.or_eq_true] at h2
      rcases h2 with h2 | h2
      · exact absurd (by simpa using h2) hkl
      · exact h2
  have hlate : ∀ i ∈ late, i < m ∧ isExtract (opj i) = true ∧ ∀ j oj, ops[j]? = some oj → j ≠ i → Region.waitsFor .any ops i j = true ∨ Region.waitsFor .any ops j i = true ∨ (opj i).apart ops oj = true := by
    have hB' := hB
    unfold freeLB at hB'; simp only [Bool.and_eq_true] at hB'
    intro i hi
    have h1 := List.all_eq_true.1 hB'.2.2.2.1 i hi
    simp only [Bool.and_eq_true, decide_eq_true_eq] at h1
    obtain ⟨h1, h2⟩ := h1
    rw [hop i (by omega)] at h2
    simp only [Bool.and_eq_true] at h2
    refine ⟨h1, h2.1, fun j oj hj hne => ?_⟩
    have h3 := List.all_eq_true.1 h2.2 j (List.mem_range.2 (Array.getElem?_eq_some_iff.1 hj).1)
    rw [hj] at h3
    simp only [Bool.or_eq_true, beq_iff_eq] at h3
    rcases h3 with h3 | h3 | h3 | h3
    · exact absurd h3 hne
    · exact .inl h3
    · exact .inr (.inl h3)
    · exact .inr (.inr h3)
  have hs : ∀ i, i < n → ∀ cs b, (opj i).op ≠ .select cs b := fun i hi cs b => Region.noSelect_spec hsel i _ cs b (hop i hi)
  have look : ∀ i k, i < n → k < n → ∀ d, (opj k).dst = some d → d ∈ (opj i).looksAt ops → k < i ∧ Region.waitsFor .any ops i k = true ∧ k < m := fun i k hi hk d hd hl => by
    obtain ⟨-, d', h1, h2, -⟩ := freeLB_look hB hi hk (hop i hi) (hop k hk)
    rw [hd] at h1
    obtain rfl : d = d' := by simpa using h1
    exact h2 hl
  have dif : ∀ i k, i < n → k < n → i ≠ k → ∀ d, (opj k).dst = some d → (opj i).dst ≠ some d := fun i k hi hk hne d hd => by
    obtain ⟨-, d', h1, -, h3⟩ := freeLB_look hB hi hk (hop i hi) (hop k hk)
    rw [hd] at h1
    obtain rfl : d = d' := by simpa using h1
    exact h3 hne
  intro f
  induction f with
  | zero => intro listed a w h; rw [Nat.zero_add]; exact hend listed a w h
  | succ f ih =>
    intro listed a w ⟨inv, hcount, b, js, G, hb, ha, hnd, hmem, hcx, hbase, hpw⟩
    rw [show f + 1 + g = (f + g) + 1 by omega]
    by_cases hL : ∃ i ∈ late, i ∈ Region.ready .any ops listed
    · -- an extraction that is ready is taken first
      obtain ⟨i, hil, hi⟩ := hL
      obtain ⟨him, hex, hapart⟩ := hlate i hil
      have hin : i < n := by omega
      have hun := (mem_ready.1 hi).1
      obtain ⟨x, y, e1, e2, hx, hy⟩ := rem_split hun hin
      have hcount2 : ((List.range n).filter fun k => !(listed.setIfInBounds i true).getD k true).length = f := by
        rw [e2]; rw [e1] at hcount; simp at hcount ⊢; omega
      have hguard : (opj i).guard = none := (freeLB_look hB hin hin (hop i hin) (hop i hin)).1
      have hi_notin : i ∉ js := fun h => by have := ((hmem i).1 h).2.2; rw [hun] at this; cases this
      have hjs : ∀ j ∈ js, m ≤ j ∧ j < n ∧ j ≠ i := fun j hj => ⟨((hmem j).1 hj).1, ((hmem j).1 hj).2.1, fun h => hi_notin (h ▸ hj)⟩
      have hset : ∀ k, (listed.setIfInBounds i true).getD k true = if k = i then true else listed.getD k true := fun k => by
        by_cases hki : k = i
        · subst hki
          rw [if_pos rfl]
          rcases Nat.lt_or_ge k listed.size with h | h
          · simp [h]
          · have := hin; have h2 := inv.size; omega
        · rw [if_neg hki]; exact getD_set_ne true (Ne.symm hki)
      obtain ⟨x, y, f1, f2, hx, hy⟩ := rem_split hun him
      rw [f1, List.map_append, List.map_cons, putsL_append] at hb
      have hb' : putsL (b.put (opj i).dst (V i)) ((x ++ y).map fun i => (opj i, V i)) = A := by
        rw [List.map_append, putsL_append, putsL_comm (opj i) (V i)]
        · exact hb
        · intro p hp d hd
          obtain ⟨k, hk, rfl⟩ := List.mem_map.1 hp
          exact dif k i (by have := (hx k hk).1; omega) hin (by have := (hx k hk).1; omega) d hd
      have ha' : ∀ v, a.put (opj i).dst v = putsL (b.put (opj i).dst v) (js.map fun j => (opj j, Value.pointer (some ⟨G j, 0, none⟩))) := fun v => by
        rw [ha, putsL_comm (opj i) v]
        intro p hp d hd
        obtain ⟨j, hj, rfl⟩ := List.mem_map.1 hp
        exact dif j i (hjs j hj).2.1 hin (hjs j hj).2.2 d hd
      have hexec : execOp a.eval (opj i) = execOp (putsL a0 ((List.range i).map fun i => (opj i, V i))).eval (opj i) := by
        have t1 : execOp a.eval (opj i) = execOp b.eval (opj i) := by
          rw [ha]
          refine execOp_puts (ops := ops) _ (hs i hin) _ _ fun p hp d hd hl => ?_
          obtain ⟨j, hj, rfl⟩ := List.mem_map.1 hp
          have h1 := (look i j hin (hjs j hj).2.1 d hd hl).2.2
          have h2 := (hjs j hj).1
          omega
        have t2 : execOp A.eval (opj i) = execOp b.eval (opj i) := by
          rw [← hb]
          rw [← List.map_cons (f := fun i => (opj i, V i)), ← putsL_append, ← List.map_append]
          refine execOp_puts (ops := ops) _ (hs i hin) _ _ fun p hp d hd hl => ?_
          obtain ⟨k, hk, rfl⟩ := List.mem_map.1 hp
          have hkn : k < n ∧ listed.getD k true = false := by
            rw [List.mem_append, List.mem_cons] at hk
            rcases hk with hk | rfl | hk
            · exact ⟨by have := (hx k hk).1; omega, (hx k hk).2⟩
            · exact ⟨hin, hun⟩
            · exact ⟨by have := (hy k hk).2.1; omega, (hy k hk).2.2⟩
          obtain ⟨h1, h2, -⟩ := look i k hin hkn.1 d hd hl
          obtain ⟨oj, hoj, e, he, hbd, hon⟩ := Region.waitsFor_spec h2
          obtain ⟨-, oi, hoi, hdone⟩ := mem_ready.1 hi
          have : oj = oi := Option.some.inj (hoj.symm.trans hoi)
          subst this
          have h3 := hdone e he hbd
          rw [hon, getD_both hkn.2] at h3
          cases h3
        have t3 : execOp A.eval (opj i) = execOp (putsL a0 ((List.range i).map fun i => (opj i, V i))).eval (opj i) := by
          rw [← hA]
          have hr : List.range m = List.range i ++ List.range' i (m - i) := by
            rw [List.range_eq_range', List.range_eq_range', show m = i + (m - i) by omega, ← List.range'_append_1]; simp
          rw [hr, List.map_append, putsL_append]
          refine execOp_puts (ops := ops) _ (hs i hin) _ _ fun p hp d hd hl => ?_
          obtain ⟨k, hk, rfl⟩ := List.mem_map.1 hp
          rw [List.mem_range'_1] at hk
          have := (look i k hin (by omega) d hd hl).1
          omega
        rw [t1, ← t2, t3]
      have hfact := hq i him _ w hcx
      rw [← hexec] at hfact
      have go : ∀ w', CX w0 (js.map fun j => (G j, obj j)) w' → wpAny P .any ops Q (f + g) (listed.setIfInBounds i true) (a.put (opj i).dst (V i)) w' := fun w' hw' => by
        refine ih _ _ _ ⟨inv.set hi hin, hcount2, b.put (opj i).dst (V i), js, G, by rw [f2]; exact hb', ha' _, hnd, fun j => ?_, hw', hbase, hpw⟩
        rw [hmem j, hset j]
        by_cases hji : j = i
        · subst hji; simp only [if_true]; constructor
          · intro h; omega
          · intro h; omega
        · rw [if_neg hji]
      have hyield : Yields P ops (opj i) (V i) a := by
        refine .inl ⟨want_none hguard, fun w' => extract_any hex (w := w) ?_ w'⟩
        have hnc := fun fn args w' => extract_enter (P := P) hex (a := a) (w := w) (w' := w') (f := fn) (args := args)
        have hns := fun w' => extract_skip (P := P) hex (a := a) (w := w) (w' := w')
        generalize (execOp a.eval (opj i)).run P w = r at *
        cases r with
        | ok nx w' =>
          cases nx <;> simp only [Oper.quietUpon] at hfact
          case value u => obtain ⟨h1, h2⟩ := hfact; rw [h1, h2]
          case skip => exact (hns w' rfl).elim
          case enter fn args => exact (hnc fn args w' rfl).elim
        | halt x w' => simp only [Oper.quietUpon] at hfact
      refine wpAny_first (hop i hin) (Region.noSelect_spec hsel) (fun c a w h => by obtain ⟨-, d, hd, -⟩ := freeLB_look hB hin hin (hop i hin) (hop i hin); rw [hd] at h; exact hQ c a d (V i) w h) _ listed a w (fun j oj hj hne hunj hno => ?_) hi hyield (go w hcx)
      rcases hapart j oj hj hne with h1 | h1 | h1
      · obtain ⟨oi, hoi, e, he, hbd, hon⟩ := Region.waitsFor_spec h1
        obtain ⟨-, oi', hoi', hdone⟩ := mem_ready.1 hi
        have : oi = oi' := Option.some.inj (hoi.symm.trans hoi')
        subst this
        have h3 := hdone e he hbd
        rw [hon, getD_both hunj] at h3
        cases h3
      · obtain ⟨oj', hoj', e, he, hbd, hon⟩ := Region.waitsFor_spec h1
        have : oj' = oj := Option.some.inj (hoj'.symm.trans hj)
        subst this
        exact absurd hon (hno e he hbd)
      · exact h1
    -- an operation of the head has not come up yet, and it is no late one
    obtain ⟨i1, hi1, hun1⟩ : ∃ i0, i0 < n ∧ listed.getD i0 true = false := by
      have : ((List.range n).filter fun i => !listed.getD i true) ≠ [] := by intro h; rw [h] at hcount; simp at hcount
      obtain ⟨x, hx⟩ := List.exists_mem_of_ne_nil _ this
      rw [List.mem_filter] at hx
      exact ⟨x, List.mem_range.1 hx.1, by simpa using hx.2⟩
    obtain ⟨i0, hi0, hun0, hnl0⟩ : ∃ i0, i0 < n ∧ listed.getD i0 true = false ∧ i0 ∉ late := by
      apply Classical.byContradiction
      intro hcon
      have key : ∀ k, k < n → listed.getD k true = false → False := by
        intro k
        induction k using Nat.strongRecOn with
        | _ k ihk =>
          intro hk hun
          have hkl : k ∈ late := Classical.byContradiction fun h => hcon ⟨k, hk, hun, h⟩
          refine hL ⟨k, hkl, ?_⟩
          rw [mem_ready]
          refine ⟨hun, opj k, hop k hk, fun e he hbd => ?_⟩
          have hlt := freeLB_deps hB (hop k hk) e he hbd
          cases hl : listed.getD e.on false with
          | true => rfl
          | false => exact (ihk e.on hlt (by omega) (getD_in (by rw [inv.size]; omega) hl)).elim
      exact key i1 hi1 hun1
    have tw : ∀ t, n ≤ t → t ∉ Region.ready .any ops listed := fun t ht hr => by
      obtain ⟨_, ot, hot, hall⟩ := mem_ready.1 hr
      have h3 := reach_listed inv _ _ _ (hsink t ht (Array.getElem?_eq_some_iff.1 hot).1 i0 hi0 hnl0) fun ot' hot' e he hbd => hall e (Option.some.inj (hot'.symm.trans hot) ▸ he) hbd
      rw [getD_both hun0] at h3
      cases h3
    refine ⟨fun h0 => ?_, fun i hi => ?_⟩
    · exfalso
      -- the least one is ready
      have key : ∀ k, k < n → listed.getD k true = false → False := by
        intro k
        induction k using Nat.strongRecOn with
        | _ k ihk =>
          intro hk hun
          have : k ∈ Region.ready .any ops listed := by
            rw [mem_ready]
            refine ⟨hun, opj k, hop k hk, fun e he hbd => ?_⟩
            have hlt := freeLB_deps hB (hop k hk) e he hbd
            cases hl : listed.getD e.on false with
            | true => rfl
            | false => exact (ihk e.on hlt (by omega) (getD_in (by rw [inv.size]; omega) hl)).elim
          rw [h0] at this; cases this
      exact key i0 hi0 hun0
    · have hin : i < n := by
        rcases Nat.lt_or_ge i n with h | h
        · exact h
        · exact absurd hi (tw i h)
      have hun := (mem_ready.1 hi).1
      obtain ⟨x, y, e1, e2, hx, hy⟩ := rem_split hun hin
      have hcount2 : ((List.range n).filter fun k => !(listed.setIfInBounds i true).getD k true).length = f := by
        rw [e2]; rw [e1] at hcount; simp at hcount ⊢; omega
      have hguard : (opj i).guard = none := (freeLB_look hB hin hin (hop i hin) (hop i hin)).1
      have hi_notin : i ∉ js := fun h => by have := ((hmem i).1 h).2.2; rw [hun] at this; cases this
      have hjs : ∀ j ∈ js, m ≤ j ∧ j < n ∧ j ≠ i := fun j hj => ⟨((hmem j).1 hj).1, ((hmem j).1 hj).2.1, fun h => hi_notin (h ▸ hj)⟩
      have hset : ∀ k, (listed.setIfInBounds i true).getD k true = if k = i then true else listed.getD k true := fun k => by
        by_cases hki : k = i
        · subst hki
          rw [if_pos rfl]
          rcases Nat.lt_or_ge k listed.size with h | h
          · simp [h]
          · have := hin; have h2 := inv.size; omega
        · rw [if_neg hki]; exact getD_set_ne true (Ne.symm hki)
      unfold wpOp
      rw [hop i hin]
      dsimp only
      rw [if_pos (want_none hguard)]
      refine .inl ?_
      rcases Nat.lt_or_ge i m with him | him
      · -- a quiet operation
        obtain ⟨x, y, f1, f2, hx, hy⟩ := rem_split hun him
        rw [f1, List.map_append, List.map_cons, putsL_append] at hb
        have hb' : putsL (b.put (opj i).dst (V i)) ((x ++ y).map fun i => (opj i, V i)) = A := by
          rw [List.map_append, putsL_append, putsL_comm (opj i) (V i)]
          · exact hb
          · intro p hp d hd
            obtain ⟨k, hk, rfl⟩ := List.mem_map.1 hp
            exact dif k i (by have := (hx k hk).1; omega) hin (by have := (hx k hk).1; omega) d hd
        have ha' : ∀ v, a.put (opj i).dst v = putsL (b.put (opj i).dst v) (js.map fun j => (opj j, Value.pointer (some ⟨G j, 0, none⟩))) := fun v => by
          rw [ha, putsL_comm (opj i) v]
          intro p hp d hd
          obtain ⟨j, hj, rfl⟩ := List.mem_map.1 hp
          exact dif j i (hjs j hj).2.1 hin (hjs j hj).2.2 d hd
        have hexec : execOp a.eval (opj i) = execOp (putsL a0 ((List.range i).map fun i => (opj i, V i))).eval (opj i) := by
          have t1 : execOp a.eval (opj i) = execOp b.eval (opj i) := by
            rw [ha]
            refine execOp_puts (ops := ops) _ (hs i hin) _ _ fun p hp d hd hl => ?_
            obtain ⟨j, hj, rfl⟩ := List.mem_map.1 hp
            have h1 := (look i j hin (hjs j hj).2.1 d hd hl).2.2
            have h2 := (hjs j hj).1
            omega
          have t2 : execOp A.eval (opj i) = execOp b.eval (opj i) := by
            rw [← hb]
            rw [← List.map_cons (f := fun i => (opj i, V i)), ← putsL_append, ← List.map_append]
            refine execOp_puts (ops := ops) _ (hs i hin) _ _ fun p hp d hd hl => ?_
            obtain ⟨k, hk, rfl⟩ := List.mem_map.1 hp
            have hkn : k < n ∧ listed.getD k true = false := by
              rw [List.mem_append, List.mem_cons] at hk
              rcases hk with hk | rfl | hk
              · exact ⟨by have := (hx k hk).1; omega, (hx k hk).2⟩
              · exact ⟨hin, hun⟩
              · exact ⟨by have := (hy k hk).2.1; omega, (hy k hk).2.2⟩
            obtain ⟨h1, h2, -⟩ := look i k hin hkn.1 d hd hl
            obtain ⟨oj, hoj, e, he, hbd, hon⟩ := Region.waitsFor_spec h2
            obtain ⟨-, oi, hoi, hdone⟩ := mem_ready.1 hi
            have : oj = oi := Option.some.inj (hoj.symm.trans hoi)
            subst this
            have h3 := hdone e he hbd
            rw [hon, getD_both hkn.2] at h3
            cases h3
          have t3 : execOp A.eval (opj i) = execOp (putsL a0 ((List.range i).map fun i => (opj i, V i))).eval (opj i) := by
            rw [← hA]
            have hr : List.range m = List.range i ++ List.range' i (m - i) := by
              rw [List.range_eq_range', List.range_eq_range', show m = i + (m - i) by omega, ← List.range'_append_1]; simp
            rw [hr, List.map_append, putsL_append]
            refine execOp_puts (ops := ops) _ (hs i hin) _ _ fun p hp d hd hl => ?_
            obtain ⟨k, hk, rfl⟩ := List.mem_map.1 hp
            rw [List.mem_range'_1] at hk
            have := (look i k hin (by omega) d hd hl).1
            omega
          rw [t1, ← t2, t3]
        have hfact := hq i him _ w hcx
        rw [← hexec] at hfact
        have go : ∀ w', CX w0 (js.map fun j => (G j, obj j)) w' → wpAny P .any ops Q (f + g) (listed.setIfInBounds i true) (a.put (opj i).dst (V i)) w' := fun w' hw' => by
          refine ih _ _ _ ⟨inv.set hi hin, hcount2, b.put (opj i).dst (V i), js, G, by rw [f2]; exact hb', ha' _, hnd, fun j => ?_, hw', hbase, hpw⟩
          rw [hmem j, hset j]
          by_cases hji : j = i
          · subst hji; simp only [if_true]; constructor
            · intro h; omega
            · intro h; omega
          · rw [if_neg hji]
        unfold Oper.wp
        generalize (execOp a.eval (opj i)).run P w = r at *
        cases r with
        | ok nx w' =>
          cases nx <;> simp only [Oper.quietUpon] at hfact <;> simp only [Oper.upon]
          case value u => obtain ⟨h1, h2⟩ := hfact; rw [h1, h2]; exact go w hcx
          case skip => obtain ⟨h1, h2⟩ := hfact; rw [h1, ← h2]; exact go w hcx
          case enter fn args =>
            obtain ⟨h1, hc⟩ := hfact
            rw [h1]
            exact hc.mono fun e w'' ⟨he, hw''⟩ => by subst he; exact go w'' (inX_iff.1 hw'')
        | halt x w' => simp only [Oper.quietUpon] at hfact
      · -- an allocation
        unfold Oper.wp
        rw [hal i him hin a w]
        simp only [Oper.upon]
        have hG : ∀ j ∈ js, (if j = i then w.heap.size else G j) = G j := fun j hj => if_neg (hjs j hj).2.2
        refine ih _ _ _ ⟨inv.set hi hin, hcount2, b, js ++ [i], fun j => if j = i then w.heap.size else G j, by rw [rem_same him]; exact hb, ?_, ?_, fun j => ?_, ⟨?_, fun p hp => ?_⟩, fun j hj => ?_, ?_⟩
        · rw [List.map_append, putsL_append, ha]
          have : (js.map fun j => (opj j, Value.pointer (some ⟨if j = i then w.heap.size else G j, 0, none⟩))) = js.map fun j => (opj j, Value.pointer (some ⟨G j, 0, none⟩)) := List.map_congr_left fun j hj => by rw [hG j hj]
          rw [this]
          simp [putsL]
        · rw [List.nodup_append]
          exact ⟨hnd, by simp, fun a ha b hb => by simp at hb; subst hb; exact (hjs a ha).2.2⟩
        · rw [List.mem_append, hmem j, hset j]
          by_cases hji : j = i
          · subst hji; simp; omega
          · rw [if_neg hji]; simp [hji]
        · exact hcx.1.alloc hcx.1.size _
        · rw [List.map_append, List.mem_append] at hp
          rcases hp with hp | hp
          · obtain ⟨j, hj, rfl⟩ := List.mem_map.1 hp
            dsimp only
            rw [hG j hj]
            obtain ⟨h1, h2⟩ := hcx.2 (G j, obj j) (List.mem_map.2 ⟨j, hj, rfl⟩)
            exact ⟨by simp; exact Nat.lt_succ_of_lt h1, by rw [Below.heap_alloc _ _ _ h1]; exact h2⟩
          · simp at hp
            subst hp
            exact ⟨by simp, by show (w.heap.push (obj i))[w.heap.size]? = _; simp⟩
        · rw [List.mem_append] at hj
          rcases hj with hj | hj
          · dsimp only; rw [hG j hj]; exact hbase j hj
          · simp at hj; subst hj; dsimp only; rw [if_pos rfl]; exact hcx.1.size
        · rw [List.pairwise_append]
          refine ⟨List.Pairwise.imp_of_mem (fun {a b} ha hb h => by dsimp only; rw [hG a ha, hG b hb]; exact h) hpw, by simp, fun a ha b hb => ?_⟩
          simp at hb; subst hb
          dsimp only
          rw [hG a ha, if_pos rfl]
          have := (hcx.2 (G a, obj a) (List.mem_map.2 ⟨a, ha, rfl⟩)).1
          exact Nat.ne_of_lt this
/-- **ONE WALK SERVES EVERY ORDER**, allocations among the calls included: behind the quiet operations the frame is A; the new blocks' numbers are whatever they are. -/
theorem any_freeL {Q : Exit → Act → World → Prop} {a0 : Act} {w : World} {l : List Oper} (late : List Nat) (m n : Nat) (obj : Nat → Obj) (hmn : m ≤ n) (hB : freeLB l.toArray late m n = true) (hQ : ∀ c (a : Act) (d : Tmp) (v : Value) w, Q (.panic c) (a.put (some d) v) w → Q (.panic c) a w)
    (hsz : ∀ i, i < m → ∀ o, l[i]? = some o → ∀ d, o.dst = some d → d < a0.tmps.size)
    (hal : ∀ j, m ≤ j → j < n → ∀ o, l[j]? = some o → ∀ (a : Act) (v : World), (execOp a.eval o).run P v = .ok (.value (.pointer (some ⟨v.heap.size, 0, none⟩))) (v.alloc (obj j)))
    (A : Act) (hq : ∀ X, Nonempty (LaterX w X) → wpQuiet P l.toArray (InX w X) (fun a' => a' = A) (l.take m) a0)
    (hfin : ∀ (G : Nat → Nat) (w' : World), Below w.heap.size w w' → (∀ j, m ≤ j → j < n → w.heap.size ≤ G j ∧ G j < w'.heap.size ∧ w'.heap[G j]? = some (obj j)) → (∀ i j, m ≤ i → i < n → m ≤ j → j < n → i ≠ j → G i ≠ G j) →
      wpList P l.toArray Q (l.drop n) (putsL A (ptrs G m ((l.take n).drop m))) w') :
    wpAny P .any l.toArray Q l.toArray.size (Array.replicate l.toArray.size false) a0 { w with drawn := w.drawn + 1 } := by
  have hn : n < l.toArray.size := by have h := hB; unfold freeLB at h; simp only [Bool.and_eq_true, decide_eq_true_eq] at h; exact h.2.1
  have hseq : Region.seqB .any l.toArray (l.toArray.size - n) n (Array.replicate n true ++ Array.replicate (l.toArray.size - n) false) = true := by
    have h := hB; unfold freeLB at h; simp only [Bool.and_eq_true] at h; exact h.2.2.2.2.2.2
  have hnl : n < l.length := by simpa using hn
  obtain ⟨o0, ho0⟩ : ∃ o0 : Oper, o0 ∈ l := List.exists_mem_of_ne_nil _ (by intro h; rw [h] at hnl; simp at hnl)
  obtain ⟨opj, hopj⟩ : ∃ opj : Nat → Oper, opj = fun i => l.getD i o0 := ⟨_, rfl⟩
  have hop' : ∀ i, i < n → l[i]? = some (opj i) := fun i hi => by
    have : i < l.length := by omega
    rw [hopj]; simp [this]
  have hop : ∀ i, i < n → l.toArray[i]? = some (opj i) := fun i hi => by simpa using hop' i hi
  have htl : (l.take m).length = m := by simp; omega
  have mem_take : ∀ o ∈ l.take m, ∃ i, i < m ∧ l[i]? = some o := fun o ho => by
    obtain ⟨i, hi, he⟩ := List.getElem_of_mem ho
    rw [htl] at hi
    refine ⟨i, hi, ?_⟩
    rw [← he]; simp
  obtain ⟨vs, v1, v2, v3⟩ := pass_facts (P := P) (ops := l.toArray) (w0 := w) (A := A) (l.take m) a0 hq
    (fun o ho => by
      obtain ⟨i, hi, he⟩ := mem_take o ho
      exact (freeLB_look hB (show i < n by omega) (show i < n by omega) (by simpa using he) (by simpa using he)).1)
    (fun o ho => by
      obtain ⟨i, hi, he⟩ := mem_take o ho
      obtain ⟨-, d, h1, -⟩ := freeLB_look hB (show i < n by omega) (show i < n by omega) (oi := o) (ok := o) (by simpa using he) (by simpa using he)
      exact ⟨d, h1, hsz i hi o he d h1⟩)
    (List.pairwise_iff_getElem.2 fun i j hi hj hij => by
      rw [htl] at hi hj
      obtain ⟨-, d, h1, -, h2⟩ := freeLB_look hB (show j < n by omega) (show i < n by omega) (oi := (l.take m)[j]) (ok := (l.take m)[i]) (by simp) (by simp)
      rw [h1]; exact h2 (by omega))
  have hvl : vs.length = m := by rw [← htl, ← v1]; simp
  obtain ⟨V, hV⟩ : ∃ V : Nat → Value, V = fun i => (vs[i]?.map (·.2)).getD undef := ⟨_, rfl⟩
  have hvs : vs = (List.range m).map fun i => (opj i, V i) := by
    apply List.ext_getElem
    · simp [hvl]
    · intro i h1 h2
      rw [hvl] at h1
      have e1 : (vs.map (·.1))[i]? = (l.take m)[i]? := by rw [v1]
      have e2 : (l.take m)[i]? = some (opj i) := by rw [List.getElem?_take_of_lt h1]; exact hop' i (by omega)
      rw [e2] at e1
      have hi : i < vs.length := by omega
      simp [hi] at e1
      simp [hV, hi]
      rw [← e1]
  have inv0 : HeadInv .any l.toArray n (Array.replicate l.toArray.size false) :=
    ⟨by simp, fun j oj _ hl => (by rw [getD_replicate_false] at hl; cases hl), fun t _ ht => getD_in (by simpa using ht) (getD_replicate_false _ _)⟩
  have hr0 : ∀ k, k < l.toArray.size → (Array.replicate l.toArray.size false).getD k true = false := fun k hk => getD_in (by simpa using hk) (getD_replicate_false _ _)
  have start : FreeInv l.toArray opj V obj m n A w n (Array.replicate l.toArray.size false) a0 { w with drawn := w.drawn + 1 } := by
    refine ⟨inv0, ?_, a0, [], fun _ => 0, ?_, rfl, List.nodup_nil, fun j => ?_, ⟨⟨rfl, rfl, rfl, Nat.le_refl _, fun _ _ => rfl⟩, fun p hp => by simp at hp⟩, fun j hj => by simp at hj, List.Pairwise.nil⟩
    · rw [List.filter_eq_self.2 fun k hk => by rw [hr0 k (by have := List.mem_range.1 hk; omega)]; rfl]; simp
    · rw [List.filter_eq_self.2 fun k hk => by rw [hr0 k (by have := List.mem_range.1 hk; omega)]; rfl, ← hvs]; exact v2
    · constructor
      · intro h; cases h
      · intro ⟨_, h1, h2⟩; rw [hr0 j (by omega)] at h2; cases h2
  have hdl : (l.drop n).length = l.toArray.size - n := by simp
  have run := free_runL (P := P) (late := late) (ops := l.toArray) (opj := opj) (V := V) (obj := obj) (m := m) (n := n) (g := l.toArray.size - n) (A := A) (a0 := a0) (w0 := w) (Q := Q) hmn hB hQ hop
    (fun j h1 h2 a v => hal j h1 h2 _ (hop' j h2) a v) (by rw [← hvs]; exact v2)
    (fun i hi X w' hw' => by
      have hr : List.range m = List.range i ++ i :: List.range' (i + 1) (m - i - 1) := by
        rw [List.range_eq_range', List.range_eq_range', show m = i + (m - i - 1 + 1) by omega, ← List.range'_append_1, List.range'_succ]; simp
      exact v3 ((List.range i).map fun i => (opj i, V i)) (opj i, V i) ((List.range' (i + 1) (m - i - 1)).map fun i => (opj i, V i)) (by rw [hvs, hr]; simp) X w' hw')
    (fun listed a w' hI => by
      obtain ⟨inv, hcount, b, js, G, hb, ha, hnd, hmem, hcx, hbase, hpw⟩ := hI
      have hdone : ∀ k, k < n → listed.getD k true = true := fun k hk => by
        cases h : listed.getD k true with
        | true => rfl
        | false =>
          have : k ∈ (List.range n).filter fun i => !listed.getD i true := List.mem_filter.2 ⟨List.mem_range.2 hk, by rw [h]; rfl⟩
          rw [List.length_eq_zero_iff.1 hcount] at this; cases this
      have hrm : ((List.range m).filter fun i => !listed.getD i true) = [] := List.filter_eq_nil_iff.2 fun k hk => by rw [hdone k (by have := List.mem_range.1 hk; omega)]; simp
      rw [hrm] at hb
      have hbA : b = A := hb
      subst hbA
      have hperm : js.Perm (List.range' m (n - m)) := (List.perm_ext_iff_of_nodup hnd List.nodup_range').2 fun j => by
        rw [hmem j, List.mem_range'_1]
        constructor
        · intro ⟨h1, h2, _⟩; omega
        · intro ⟨h1, h2⟩; exact ⟨h1, by omega, hdone j (by omega)⟩
      have hjs : ∀ j, m ≤ j → j < n → j ∈ js := fun j h1 h2 => (hmem j).2 ⟨h1, h2, hdone j h2⟩
      have hlen : ((l.take n).drop m).length = n - m := by simp; omega
      have ha2 : a = putsL b (ptrs G m ((l.take n).drop m)) := by
        rw [ha, ptrs_map G opj ((l.take n).drop m) m (fun i hi => by
          rw [hlen] at hi
          have h1 := hop' (m + i) (by omega)
          have h2 : ((l.take n).drop m)[i]? = some (opj (m + i)) := by rw [List.getElem?_drop, List.getElem?_take_of_lt (by omega)]; exact h1
          have h3 := (List.getElem?_eq_some_iff.1 h2)
          exact h3.2.symm), hlen]
        refine putsL_perm (hperm.map _) _ ?_
        rw [List.pairwise_map]
        refine List.Pairwise.imp_of_mem (fun {x y} hx hy hxy => ?_) hnd
        intro d hd he
        obtain ⟨-, d', h1, -, h2⟩ := freeLB_look hB ((hmem x).1 hx).2.1 ((hmem y).1 hy).2.1 (hop x ((hmem x).1 hx).2.1) (hop y ((hmem y).1 hy).2.1)
        dsimp only at hd he
        rw [he] at h1
        obtain rfl : d = d' := by simpa using h1
        exact h2 hxy hd
      have hlist : listed = Array.replicate n true ++ Array.replicate (l.toArray.size - n) false := by
        apply Array.ext
        · rw [inv.size]; simp; omega
        · intro k h1 h2
          by_cases hk : k < n
          · have := hdone k hk
            simp [h1] at this
            rw [this, Array.getElem_append_left (by simpa using hk)]; simp
          · have := inv.tail k (by omega) (by rw [← inv.size]; exact h1)
            simp [h1] at this
            rw [this, Array.getElem_append_right (by simp; omega)]; simp
      have ht := hfin G w' hcx.1 (fun j h1 h2 => ⟨hbase j (hjs j h1 h2), hcx.2 (G j, obj j) (List.mem_map.2 ⟨j, hjs j h1 h2, rfl⟩)⟩) (fun i j i1 i2 j1 j2 hne => by
        intro he
        have : ∀ (L : List Nat), L.Nodup → L.Pairwise (fun i j => G i ≠ G j) → i ∈ L → j ∈ L → False := by
          intro L hL hP hi hj
          rcases List.mem_iff_getElem.1 hi with ⟨x, hx, rfl⟩
          rcases List.mem_iff_getElem.1 hj with ⟨y, hy, rfl⟩
          rcases Nat.lt_trichotomy x y with h | h | h
          · exact (List.pairwise_iff_getElem.1 hP) x y hx hy h he
          · subst h; exact hne rfl
          · exact (List.pairwise_iff_getElem.1 hP) y x hy hx h he.symm
        exact this js hnd hpw (hjs i i1 i2) (hjs j j1 j2))
      rw [ha2, ← hdl]
      exact wpAny_of_seq (md := .any) (Q' := Q) (l.drop n) n listed _ w' (fun j => by simp [List.getElem?_drop]) (by rw [hdl, hlist]; exact hseq) ht) n _ a0 _ start
  rw [show n + (l.toArray.size - n) = l.toArray.size by omega] at run
  exact run
theorem wp_region_freeL {id : Nat} {Q : Exit → Act → World → Prop} {a0 : Act} {w : World} {l : List Oper} (late : List Nat) (m n : Nat) (obj : Nat → Obj) (hm : P.follows .mixedOrders = true) (hmn : m ≤ n) (hB : freeLB l.toArray late m n = true) (hQ : ∀ c (a : Act) (d : Tmp) (v : Value) w, Q (.panic c) (a.put (some d) v) w → Q (.panic c) a w)
    (hsz : ∀ i, i < m → ∀ o, l[i]? = some o → ∀ d, o.dst = some d → d < a0.tmps.size)
    (hal : ∀ j, m ≤ j → j < n → ∀ o, l[j]? = some o → ∀ (a : Act) (v : World), (execOp a.eval o).run P v = .ok (.value (.pointer (some ⟨v.heap.size, 0, none⟩))) (v.alloc (obj j)))
    (A : Act) (hq : ∀ X, Nonempty (LaterX w X) → wpQuiet P l.toArray (InX w X) (fun a' => a' = A) (l.take m) a0)
    (hfin : ∀ (G : Nat → Nat) (w' : World), Below w.heap.size w w' → (∀ j, m ≤ j → j < n → w.heap.size ≤ G j ∧ G j < w'.heap.size ∧ w'.heap[G j]? = some (obj j)) → (∀ i j, m ≤ i → i < n → m ≤ j → j < n → i ≠ j → G i ≠ G j) →
      wpList P l.toArray Q (l.drop n) (putsL A (ptrs G m ((l.take n).drop m))) w') :
    (Code.region id l.toArray true).wp P Q a0 w :=
  wp_region_any hm (any_freeL late m n obj hmn hB hQ hsz hal A hq hfin)
/-- the same, for allocations of one type, the side conditions as Bools -/
theorem anyT_freeL {Q : Exit → Act → World → Prop} {a0 : Act} {w : World} {l : List Oper} (late : List Nat) (m n N : Nat) (T : TypeId) (obj : Obj) (hmn : m ≤ n) (hB : freeLB l.toArray late m n = true) (hQ : ∀ c (a : Act) (d : Tmp) (v : Value) w, Q (.panic c) (a.put (some d) v) w → Q (.panic c) a w)
    (hN : a0.tmps.size = N) (hszB : dstB N (l.take m) = true) (haB : allocB T ((l.take n).drop m) = true)
    (hal : ∀ o : Oper, o.op = .alloc T → ∀ (a : Act) (v : World), (execOp a.eval o).run P v = .ok (.value (.pointer (some ⟨v.heap.size, 0, none⟩))) (v.alloc obj))
    (h : ∃ A : Act, (∀ X, Nonempty (LaterX w X) → wpQuiet P l.toArray (fun w' => ∃ m : LaterX w X, w' = m.wd) (fun a' => a' = A) (l.take m) a0) ∧
      (∀ (G : Nat → Nat) (w' : World), Below w.heap.size w w' → (∀ j, m ≤ j → j < n → w.heap.size ≤ G j ∧ G j < w'.heap.size ∧ w'.heap[G j]? = some obj) → (∀ i j, m ≤ i → i < n → m ≤ j → j < n → i ≠ j → G i ≠ G j) →
      wpList P l.toArray Q (l.drop n) (putsL A (ptrs G m ((l.take n).drop m))) w')) :
    wpAny P .any l.toArray Q l.toArray.size (Array.replicate l.toArray.size false) a0 { w with drawn := w.drawn + 1 } := by
  obtain ⟨A, hq, hfin⟩ := h
  refine any_freeL late m n (fun _ => obj) hmn hB hQ (fun i hi o ho d hd => ?_) (fun j h1 h2 o ho a v => ?_) A hq hfin
  · unfold dstB at hszB
    rw [List.all_eq_true] at hszB
    have h := hszB o (List.mem_iff_getElem?.2 ⟨i, by rw [List.getElem?_take_of_lt hi]; exact ho⟩)
    rw [hd] at h
    rw [hN]; simpa using h
  · unfold allocB at haB
    rw [List.all_eq_true] at haB
    have h := haB o (List.mem_iff_getElem?.2 ⟨j - m, by rw [List.getElem?_drop, show m + (j - m) = j by omega, List.getElem?_take_of_lt h2]; exact ho⟩)
    refine hal o ?_ a v
    cases hop : o.op <;> rw [hop] at h <;> simp at h
    rw [h]
theorem region_freeL {id : Nat} {Q : Exit → Act → World → Prop} {a0 : Act} {w : World} {l : List Oper} (late : List Nat) (m n N : Nat) (T : TypeId) (obj : Obj) (hm : P.follows .mixedOrders = true) (hmn : m ≤ n) (hB : freeLB l.toArray late m n = true) (hQ : ∀ c (a : Act) (d : Tmp) (v : Value) w, Q (.panic c) (a.put (some d) v) w → Q (.panic c) a w)
    (hN : a0.tmps.size = N) (hszB : dstB N (l.take m) = true) (haB : allocB T ((l.take n).drop m) = true)
    (hal : ∀ o : Oper, o.op = .alloc T → ∀ (a : Act) (v : World), (execOp a.eval o).run P v = .ok (.value (.pointer (some ⟨v.heap.size, 0, none⟩))) (v.alloc obj))
    (h : ∃ A : Act, (∀ X, Nonempty (LaterX w X) → wpQuiet P l.toArray (fun w' => ∃ m : LaterX w X, w' = m.wd) (fun a' => a' = A) (l.take m) a0) ∧
      (∀ (G : Nat → Nat) (w' : World), Below w.heap.size w w' → (∀ j, m ≤ j → j < n → w.heap.size ≤ G j ∧ G j < w'.heap.size ∧ w'.heap[G j]? = some obj) → (∀ i j, m ≤ i → i < n → m ≤ j → j < n → i ≠ j → G i ≠ G j) →
      wpList P l.toArray Q (l.drop n) (putsL A (ptrs G m ((l.take n).drop m))) w')) :
    (Code.region id l.toArray true).wp P Q a0 w :=
  wp_region_any hm (anyT_freeL late m n N T obj hmn hB hQ hN hszB haB hal h)
/-- an operation behind all others that nobody waits for, done before them -/
theorem wpAny_push {ops : Array Oper} {x : Oper} {Q : Exit → Act → World → Prop} (hg : ∀ (i : Nat) (o : Oper), ops[i]? = some o → o.guard = none) (hd : ∀ (i : Nat) (o : Oper), ops[i]? = some o → ∀ e ∈ o.after, e.on < ops.size) :
    ∀ (f : Nat) (listed : Array Bool) (a : Act) (w : World), listed.size = ops.size → wpAny P .any ops Q f listed a w → wpAny P .any (ops.push x) Q f (listed.push true) a w := by
  have opi : ∀ i, i < ops.size → (ops.push x)[i]? = ops[i]? := fun i hi => by rw [Array.getElem?_push, if_neg (by omega)]
  have getL : ∀ (listed : Array Bool) (b : Bool) (k : Nat), listed.size = ops.size → k < ops.size → (listed.push true).getD k b = listed.getD k b := fun listed b k hs hk => by
    have h1 : k < (listed.push true).size := by simp; omega
    have h2 : k < listed.size := by omega
    simp only [Array.getD, h1, h2, dif_pos]
    exact Array.getElem_push_lt h2
  have rdy : ∀ (listed : Array Bool), listed.size = ops.size → ∀ j, j ∈ Region.ready .any (ops.push x) (listed.push true) ↔ j ∈ Region.ready .any ops listed := fun listed hs j => by
    rw [mem_ready, mem_ready]
    by_cases hj : j < ops.size
    · rw [opi j hj, getL listed _ j hs hj]
      constructor
      · rintro ⟨h1, o, h2, h3⟩
        exact ⟨h1, o, h2, fun e he hb => by rw [← getL listed _ _ hs (hd j o h2 e he)]; exact h3 e he hb⟩
      · rintro ⟨h1, o, h2, h3⟩
        exact ⟨h1, o, h2, fun e he hb => by rw [getL listed _ _ hs (hd j o h2 e he)]; exact h3 e he hb⟩
    · constructor
      · rintro ⟨h1, o, h2, -⟩
        have hj2 : j = ops.size := by
          have := (Array.getElem?_eq_some_iff.1 h2).1
          simp at this; omega
        subst hj2
        have h3 : ops.size < (listed.push true).size := by simp; omega
        have h4 : (listed.push true).getD ops.size true = true := by
          rw [Array.getD_eq_getD_getElem?, Array.getElem?_push, if_pos hs.symm]; rfl
        rw [h4] at h1; cases h1
      · rintro ⟨-, o, h2, -⟩
        have := (Array.getElem?_eq_some_iff.1 h2).1
        omega
  have nil : ∀ (listed : Array Bool), listed.size = ops.size → (Region.ready .any (ops.push x) (listed.push true) = [] ↔ Region.ready .any ops listed = []) := fun listed hs => by
    rw [List.eq_nil_iff_forall_not_mem, List.eq_nil_iff_forall_not_mem]
    exact forall_congr' fun j => not_congr (rdy listed hs j)
  intro f
  induction f with
  | zero => intro listed a w hs h; exact ⟨(nil listed hs).2 h.1, h.2⟩
  | succ f ih =>
    intro listed a w hs h
    refine ⟨fun h0 => h.1 ((nil listed hs).1 h0), fun i hi => ?_⟩
    have hi' := (rdy listed hs i).1 hi
    have hil : i < ops.size := by
      obtain ⟨-, o, h2, -⟩ := mem_ready.1 hi'
      exact (Array.getElem?_eq_some_iff.1 h2).1
    have hop := h.2 i hi'
    have hset : (listed.push true).setIfInBounds i true = (listed.setIfInBounds i true).push true := by
      apply Array.ext_getElem?
      intro k
      simp only [Array.getElem?_setIfInBounds, Array.getElem?_push, Array.size_push, Array.size_setIfInBounds]
      by_cases hik : i = k
      · subst hik
        rw [if_pos rfl, if_pos (by omega), if_neg (by omega), if_pos rfl, if_pos (by omega)]
      · rw [if_neg hik, if_neg hik]
    have key : wpOp P ops Q i (wpAny P .any (ops.push x) Q f ((listed.push true).setIfInBounds i true)) a w := by
      refine wpOp_mono (fun a' w' hh => ?_) hop
      rw [hset]
      exact ih _ _ _ (by simp [hs]) hh
    unfold wpOp at key ⊢
    rw [opi i hil]
    cases ho : ops[i]? with
    | none => rw [ho] at key; exact key
    | some o =>
      rw [ho] at key
      dsimp only at key ⊢
      rw [want_none (hg i o ho)] at key ⊢
      exact key
def lastB (l : List Oper) (x : Oper) : Bool := x.guard.isNone && (x.after.all (fun e => !Region.binds .any e) && (isExtract x && (x.dst.isSome && (Region.noSelect (l ++ [x]).toArray && (l.all fun o => o.guard.isNone && (o.after.all (fun e => decide (e.on < l.length)) && x.apart (l ++ [x]).toArray o))))))
/-- a region whose last operation is a move that nobody waits for: it may be done first -/
theorem region_lastL {id : Nat} {Q : Exit → Act → World → Prop} {a0 : Act} {w : World} (l : List Oper) (x : Oper) (v : Value) (hm : P.follows .mixedOrders = true) (hB : lastB l x = true) (hQ : ∀ c (a : Act) (d : Tmp) (v : Value) w, Q (.panic c) (a.put (some d) v) w → Q (.panic c) a w)
    (hv : ∀ w', (execOp a0.eval x).run P w' = .ok (.value v) w')
    (h : wpAny P .any l.toArray Q l.toArray.size (Array.replicate l.toArray.size false) (a0.put x.dst v) { w with drawn := w.drawn + 1 }) : (Code.region id (l ++ [x]).toArray true).wp P Q a0 w := by
  unfold lastB at hB
  simp only [Bool.and_eq_true, Option.isNone_iff_eq_none] at hB
  obtain ⟨hxg, hxa, hxe, hxd, hsel, hl⟩ := hB
  rw [List.all_eq_true] at hl
  have hl' : ∀ (i : Nat) (o : Oper), l.toArray[i]? = some o → o.guard = none ∧ (∀ e ∈ o.after, e.on < l.length) ∧ x.apart (l ++ [x]).toArray o = true := fun i o ho => by
    have := hl o (List.mem_iff_getElem?.2 ⟨i, by simpa using ho⟩)
    simp only [Bool.and_eq_true, Option.isNone_iff_eq_none] at this
    refine ⟨this.1, fun e he => ?_, this.2.2⟩
    have h2 := Array.all_eq_true_iff_forall_mem.1 this.2.1 e he
    simpa using h2
  have hpush : (l ++ [x]).toArray = l.toArray.push x := by simp
  refine wp_region_any hm ?_
  have hlast : (l ++ [x]).toArray[l.length]? = some x := by simp
  have hsize : (l ++ [x]).toArray.size = l.length + 1 := by simp
  have hr0 : ∀ (k : Nat), k < l.length + 1 → (Array.replicate (l.length + 1) false).getD k true = false := fun k hk => by
    have h1 : k < (Array.replicate (l.length + 1) false).size := by simpa using hk
    simp only [Array.getD, h1, dif_pos]
    simp
  rw [hsize]
  refine wpAny_first hlast (Region.noSelect_spec hsel) (fun c a w h => by
    obtain ⟨d, hd⟩ := Option.isSome_iff_exists.1 hxd
    rw [hd] at h; exact hQ c a d v w h) _ _ _ _ (fun j oj hj hne _ _ => ?_) ?_ (.inl ⟨want_none hxg, hv⟩) ?_
  · have hjl : j < l.length := by
      have := (Array.getElem?_eq_some_iff.1 hj).1
      rw [hsize] at this; omega
    exact (hl' j oj (by rw [← hj, hpush, Array.getElem?_push, if_neg (by simp; omega)])).2.2
  · rw [mem_ready]
    refine ⟨hr0 _ (by omega), x, hlast, fun e he hb => ?_⟩
    have h2 := Array.all_eq_true_iff_forall_mem.1 hxa e he
    rw [hb] at h2; cases h2
  · have e : (Array.replicate (l.length + 1) false).setIfInBounds l.length true = (Array.replicate l.length false).push true := by
      apply Array.ext_getElem?
      intro k
      simp only [Array.getElem?_setIfInBounds, Array.getElem?_push, Array.getElem?_replicate, Array.size_replicate]
      by_cases hik : l.length = k
      · subst hik
        rw [if_pos rfl, if_pos (by omega), if_pos rfl]
      · by_cases hk : k < l.length
        · rw [if_neg hik, if_pos (show k < l.length + 1 by omega), if_neg (show ¬ k = l.length by omega), if_pos hk]
        · rw [if_neg hik, if_neg (show ¬ k < l.length + 1 by omega), if_neg (show ¬ k = l.length by omega), if_neg hk]
    rw [e, hpush]
    have := wpAny_push (P := P) (ops := l.toArray) (x := x) (Q := Q) (fun i o ho => (hl' i o ho).1) (fun i o ho e he => by simpa using (hl' i o ho).2.1 e he) l.length (Array.replicate l.length false) (a0.put x.dst v) { w with drawn := w.drawn + 1 } (by simp) (by simpa using h)
    exact this
theorem region_lastD {id : Nat} {Q : Exit → Act → World → Prop} {a0 : Act} {w : World} {L : List Oper} {x : Oper} (v : Value) (hx : L.getLast? = some x) (hm : P.follows .mixedOrders = true) (hB : lastB L.dropLast x = true) (hQ : ∀ c (a : Act) (d : Tmp) (v : Value) w, Q (.panic c) (a.put (some d) v) w → Q (.panic c) a w)
    (hv : ∀ w', (execOp a0.eval x).run P w' = .ok (.value v) w')
    (h : wpAny P .any L.dropLast.toArray Q L.dropLast.toArray.size (Array.replicate L.dropLast.toArray.size false) (a0.put x.dst v) { w with drawn := w.drawn + 1 }) : (Code.region id L.toArray true).wp P Q a0 w := by
  have e : L = L.dropLast ++ [x] := by
    obtain ⟨ys, hy⟩ := List.getLast?_eq_some_iff.1 hx
    subst hy; simp
  rw [e]
  exact region_lastL L.dropLast x v hm hB hQ hv h
theorem put_size (a : Act) (d : Option Tmp) (v : Value) : (a.put d v).tmps.size = a.tmps.size := by
  cases d <;> simp [Act.put]
/-- both: the last operation is a move that nobody waits for; it is walked first -/
theorem region_freeF {id : Nat} {Q : Exit → Act → World → Prop} {a0 : Act} {w : World} {L : List Oper} {x : Oper} (v : Value) (late : List Nat) (m n N : Nat) (T : TypeId) (obj : Obj) (hx : L.getLast? = some x) (hm : P.follows .mixedOrders = true) (hBL : lastB L.dropLast x = true) (hmn : m ≤ n) (hB : freeLB L.dropLast.toArray late m n = true) (hQ : ∀ c (a : Act) (d : Tmp) (v : Value) w, Q (.panic c) (a.put (some d) v) w → Q (.panic c) a w)
    (hv : ∀ w', (execOp a0.eval x).run P w' = .ok (.value v) w')
    (hN : a0.tmps.size = N) (hszB : dstB N (L.dropLast.take m) = true) (haB : allocB T ((L.dropLast.take n).drop m) = true)
    (hal : ∀ o : Oper, o.op = .alloc T → ∀ (a : Act) (v : World), (execOp a.eval o).run P v = .ok (.value (.pointer (some ⟨v.heap.size, 0, none⟩))) (v.alloc obj))
    (h : ∃ A : Act, (∀ X, Nonempty (LaterX w X) → wpQuiet P L.dropLast.toArray (fun w' => ∃ m : LaterX w X, w' = m.wd) (fun a' => a' = A) (x :: L.dropLast.take m) a0) ∧
      (∀ (G : Nat → Nat) (w' : World), Below w.heap.size w w' → (∀ j, m ≤ j → j < n → w.heap.size ≤ G j ∧ G j < w'.heap.size ∧ w'.heap[G j]? = some obj) → (∀ i j, m ≤ i → i < n → m ≤ j → j < n → i ≠ j → G i ≠ G j) →
      wpList P L.dropLast.toArray Q (L.dropLast.drop n) (putsL A (ptrs G m ((L.dropLast.take n).drop m))) w')) :
    (Code.region id L.toArray true).wp P Q a0 w := by
  have hxg : x.guard = none := by
    unfold lastB at hBL
    simp only [Bool.and_eq_true, Option.isNone_iff_eq_none] at hBL
    exact hBL.1
  obtain ⟨A, hq, hfin⟩ := h
  refine region_lastD v hx hm hBL hQ hv (anyT_freeL late m n N T obj hmn hB hQ (by rw [put_size]; exact hN) hszB haB hal ⟨A, fun X hne => ?_, hfin⟩)
  have h1 := hq X hne
  unfold wpQuiet at h1
  rw [if_pos (want_none hxg)] at h1
  obtain ⟨u, h2, h3⟩ := h1
  have h4 := h2 (Classical.choice hne).wd ⟨Classical.choice hne, rfl⟩
  unfold Oper.quietAt at h4
  rw [hv] at h4
  have h5 : v = u := h4.2
  rw [h5]; exact h3
end
end Go.Proofs.Ytjclioakdmilmaa
