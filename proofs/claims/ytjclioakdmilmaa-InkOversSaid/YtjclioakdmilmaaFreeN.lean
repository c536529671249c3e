/- Regions that draw their order: a chain of makers. Each operation of the head makes a value that holds a property, out of values of operations that it waits for; one obligation for each operation serves every order. (made out of FreeM's text) -/
import Derived.Test.YtjclioakdmilmaaFreeM
namespace Go.Proofs.Ytjclioakdmilmaa
open Go.RowKit
set_option linter.unusedVariables false
section
variable {P : Program}
theorem extract_same {o : Oper} (h : isExtract o = true) {a : Act} {v : Value} {w w' : World} (hr : (execOp a.eval o).run P w = .ok (.value v) w') : w' = w := by
  unfold isExtract at h
  cases hop : o.op <;> rw [hop] at h <;> simp at h
  case extract =>
    simp only [execOp, hop, Instr.extract] at hr
    generalize a.eval _ = x at *
    cases x <;> simp [go_sem] at hr
    all_goals (repeat' split at hr) <;> simp_all [go_sem]
  case move =>
    simp only [execOp, hop] at hr
    simp [go_sem] at hr
    simp_all [go_sem]
def FreeInvN (ops : Array Oper) (opj : Nat → Oper) (R : Nat → Value → World → Prop) (n : Nat) (a0 : Act) (w0 : World) (f : Nat) (listed : Array Bool) (a : Act) (w : World) : Prop :=
  HeadInv .any ops n listed ∧ ((List.range n).filter fun i => !listed.getD i true).length = f ∧
  ∃ (js : List Nat) (U : Nat → Value), a = putsL a0 (js.map fun j => (opj j, U j)) ∧ js.Nodup ∧ (∀ j, j ∈ js ↔ j < n ∧ listed.getD j true = true) ∧ (Below w0.heap.size w0 w ∧ ∀ j ∈ js, R j (U j) w)
set_option maxHeartbeats 1000000 in
theorem free_runN {ops : Array Oper} {late : List Nat} {opj : Nat → Oper} {R : Nat → Value → World → Prop} (hst : ∀ j v w w', R j v w → Below w.heap.size w w' → R j v w') {n g : Nat} {a0 : Act} {w0 : World} {Q : Exit → Act → World → Prop} (hB : freeLB ops late n n = true) (hQ : ∀ c (a : Act) (d : Tmp) (v : Value) w, Q (.panic c) (a.put (some d) v) w → Q (.panic c) a w) (hop : ∀ i, i < n → ops[i]? = some (opj i))
    (hmk : ∀ i, i < n → ∀ (U : Nat → Value) (w : World), Below w0.heap.size w0 w → (∀ k, k < i → Region.waitsFor .any ops i k = true → R k (U k) w) → makesUpon P (R i) w ((execOp (putsL a0 ((List.range i).map fun k => (opj k, U k))).eval (opj i)).run P w))
    (hend : ∀ listed a w, FreeInvN ops opj R n a0 w0 0 listed a w → wpAny P .any ops Q g listed a w) :
    ∀ (f : Nat) (listed : Array Bool) (a : Act) (w : World), FreeInvN ops opj R n a0 w0 f listed a w → wpAny P .any ops Q (f + g) listed a w := by
  have hsel : Region.noSelect ops = true := by unfold freeLB at hB; simp only [Bool.and_eq_true] at hB; exact hB.1
  have hn : n < ops.size := by unfold freeLB at hB; simp only [Bool.and_eq_true, decide_eq_true_eq] at hB; exact hB.2.1
  have hsink : ∀ t, n ≤ t → t < ops.size → ∀ k, k < n → k ∉ late → reachB ops 8 t k = true := by
    unfold freeLB at hB; simp only [Bool.and_eq_true] at hB
    intro t ht htl k hk hkl
    have h1 := List.all_eq_true.1 hB.2.2.1 t (List.mem_range.2 htl)
    simp only [Bool.or_eq_true, decide_eq_true_eq] at h1
    rcases h1 with h1 | h1
    · omega
    · have h2 := List.all_eq_true.1 h1 k (List.mem_range.2 hk)
      simp only [Bool.or_eq_true] at h2
      rcases h2 with h2 | h2
      · exact absurd (by simpa using h2) hkl
      · exact h2
  have hlate : ∀ i ∈ late, i < n ∧ isExtract (opj i) = true ∧ ∀ j oj, ops[j]? = some oj → j ≠ i → Region.waitsFor .any ops i j = true ∨ Region.waitsFor .any ops j i = true ∨ (opj i).apart ops oj = true := by
    have hB' := hB
    unfold freeLB at hB'; simp only [Bool.and_eq_true] at hB'
    intro i hi
    have h1 := List.all_eq_true.1 hB'.2.2.2.1 i hi
    simp only [Bool.and_eq_true, decide_eq_true_eq] at h1
    obtain ⟨h1, h2⟩ := h1
    rw [hop i (by omega)] at h2
    simp only [Bool.and_eq_true] at h2
    refine ⟨h1, h2.1, fun j oj hj hne => ?_⟩
    have h3 := List.all_eq_true.1 h2.2 j (List.mem_range.2 (Array.getElem?_eq_some_iff.1 hj).1)
    rw [hj] at h3
    simp only [Bool.or_eq_true, beq_iff_eq] at h3
    rcases h3 with h3 | h3 | h3 | h3
    · exact absurd h3 hne
    · exact .inl h3
    · exact .inr (.inl h3)
    · exact .inr (.inr h3)
  have hs : ∀ i, i < n → ∀ cs b, (opj i).op ≠ .select cs b := fun i hi cs b => Region.noSelect_spec hsel i _ cs b (hop i hi)
  have look : ∀ i k, i < n → k < n → ∀ d, (opj k).dst = some d → d ∈ (opj i).looksAt ops → k < i ∧ Region.waitsFor .any ops i k = true ∧ k < n := fun i k hi hk d hd hl => by
    obtain ⟨-, d', h1, h2, -⟩ := freeLB_look hB hi hk (hop i hi) (hop k hk)
    rw [hd] at h1
    obtain rfl : d = d' := by simpa using h1
    exact h2 hl
  have dif : ∀ i k, i < n → k < n → i ≠ k → ∀ d, (opj k).dst = some d → (opj i).dst ≠ some d := fun i k hi hk hne d hd => by
    obtain ⟨-, d', h1, -, h3⟩ := freeLB_look hB hi hk (hop i hi) (hop k hk)
    rw [hd] at h1
    obtain rfl : d = d' := by simpa using h1
    exact h3 hne
  intro f
  induction f with
  | zero => intro listed a w h; rw [Nat.zero_add]; exact hend listed a w h
  | succ f ih =>
    intro listed a w ⟨inv, hcount, js, U, ha, hnd, hmem, hcx⟩
    rw [show f + 1 + g = (f + g) + 1 by omega]
    have step : ∀ i, i ∈ Region.ready .any ops listed → i < n →
        makesUpon P (R i) w ((execOp a.eval (opj i)).run P w) ∧ ∀ v w', Below w.heap.size w w' → R i v w' → wpAny P .any ops Q (f + g) (listed.setIfInBounds i true) (a.put (opj i).dst v) w' := fun i hi hin => by
      have hun := (mem_ready.1 hi).1
      obtain ⟨x, y, e1, e2, hx, hy⟩ := rem_split hun hin
      have hcount2 : ((List.range n).filter fun k => !(listed.setIfInBounds i true).getD k true).length = f := by
        rw [e2]; rw [e1] at hcount; simp at hcount ⊢; omega
      have hi_notin : i ∉ js := fun h => by have := ((hmem i).1 h).2; rw [hun] at this; cases this
      have hjs : ∀ j ∈ js, j < n ∧ j ≠ i := fun j hj => ⟨((hmem j).1 hj).1, fun h => hi_notin (h ▸ hj)⟩
      have hset : ∀ k, (listed.setIfInBounds i true).getD k true = if k = i then true else listed.getD k true := fun k => by
        by_cases hki : k = i
        · subst hki
          rw [if_pos rfl]
          rcases Nat.lt_or_ge k listed.size with h | h
          · simp [h]
          · have := hin; have h2 := inv.size; omega
        · rw [if_neg hki]; exact getD_set_ne true (Ne.symm hki)
      have hwait : ∀ k, Region.waitsFor .any ops i k = true → k < n → listed.getD k true = true := fun k hk hkn => by
        obtain ⟨oj, hoj, e, he, hbd, hon⟩ := Region.waitsFor_spec hk
        obtain ⟨-, oi, hoi, hdone⟩ := mem_ready.1 hi
        have : oj = oi := Option.some.inj (hoj.symm.trans hoi)
        subst this
        have h3 := hdone e he hbd
        cases hl : listed.getD k true with
        | true => rfl
        | false => rw [hon, getD_both hl] at h3; cases h3
      have pwf : ∀ (L : List Nat), L.Nodup → (∀ k ∈ L, k < n) → (L.map fun j => (opj j, U j)).Pairwise (fun p q => ∀ d, p.1.dst = some d → q.1.dst ≠ some d) := fun L hL hn => by
        rw [List.pairwise_map]
        refine List.Pairwise.imp_of_mem (fun {x y} hx hy hxy => ?_) hL
        intro d hd he
        exact dif x y (hn x hx) (hn y hy) hxy d he hd
      have hexec : execOp a.eval (opj i) = execOp (putsL a0 ((List.range i).map fun k => (opj k, U k))).eval (opj i) := by
        have q1 : execOp a.eval (opj i) = execOp (putsL a0 ((js.filter fun k => decide (k < i)).map fun k => (opj k, U k))).eval (opj i) := by
          rw [ha]
          have hp : (js.map fun j => (opj j, U j)).Perm (((js.filter fun k => decide (k < i)) ++ (js.filter fun k => !decide (k < i))).map fun k => (opj k, U k)) := (List.filter_append_perm _ js).symm.map _
          rw [putsL_perm hp _ (pwf js hnd fun k hk => (hjs k hk).1), List.map_append, putsL_append]
          refine execOp_puts (ops := ops) _ (hs i hin) _ _ fun p hp d hd hl => ?_
          obtain ⟨k, hk, rfl⟩ := List.mem_map.1 hp
          rw [List.mem_filter] at hk
          have := (look i k hin (hjs k hk.1).1 d hd hl).1
          have h2 := hk.2
          simp at h2
          omega
        have q2 : execOp (putsL a0 ((List.range i).map fun k => (opj k, U k))).eval (opj i) = execOp (putsL a0 (((List.range i).filter fun k => listed.getD k true).map fun k => (opj k, U k))).eval (opj i) := by
          have hp : ((List.range i).map fun j => (opj j, U j)).Perm ((((List.range i).filter fun k => listed.getD k true) ++ ((List.range i).filter fun k => !listed.getD k true)).map fun k => (opj k, U k)) := (List.filter_append_perm _ _).symm.map _
          rw [putsL_perm hp _ (pwf _ List.nodup_range fun k hk => by have := List.mem_range.1 hk; omega), List.map_append, putsL_append]
          refine execOp_puts (ops := ops) _ (hs i hin) _ _ fun p hp d hd hl => ?_
          obtain ⟨k, hk, rfl⟩ := List.mem_map.1 hp
          rw [List.mem_filter, List.mem_range] at hk
          have := hwait k (look i k hin (by omega) d hd hl).2.1 (by omega)
          rw [this] at hk
          simp at hk
        rw [q1, q2]
        have hp : (js.filter fun k => decide (k < i)).Perm ((List.range i).filter fun k => listed.getD k true) := (List.perm_ext_iff_of_nodup (hnd.filter _) (List.nodup_range.filter _)).2 fun k => by
          rw [List.mem_filter, List.mem_filter, List.mem_range, hmem k]
          simp only [decide_eq_true_eq]
          constructor
          · rintro ⟨⟨h1, h2⟩, h3⟩; exact ⟨h3, h2⟩
          · rintro ⟨h1, h2⟩; exact ⟨⟨by omega, h2⟩, h1⟩
        rw [putsL_perm (hp.map _) _ (pwf _ (hnd.filter _) fun k hk => (hjs k (List.mem_filter.1 hk).1).1)]
      refine ⟨?_, fun v w' hbw hR => ?_⟩
      · rw [hexec]
        exact hmk i hin U w hcx.1 fun k hk hkw => hcx.2 k ((hmem k).2 ⟨by omega, hwait k hkw (by omega)⟩)
      · have hG : ∀ j ∈ js, (if j = i then v else U j) = U j := fun j hj => if_neg (hjs j hj).2
        refine ih _ _ _ ⟨inv.set hi hin, hcount2, js ++ [i], fun j => if j = i then v else U j, ?_, ?_, fun j => ?_, hcx.1.trans (hbw.mono hcx.1.size), fun j hj => ?_⟩
        · rw [List.map_append, putsL_append, ha]
          have : (js.map fun j => (opj j, if j = i then v else U j)) = js.map fun j => (opj j, U j) := List.map_congr_left fun j hj => by rw [hG j hj]
          rw [this]
          simp [putsL]
        · rw [List.nodup_append]
          exact ⟨hnd, by simp, fun a ha b hb => by simp at hb; subst hb; exact (hjs a ha).2⟩
        · rw [List.mem_append, hmem j, hset j]
          by_cases hji : j = i
          · subst hji; simp; omega
          · rw [if_neg hji]; simp [hji]
        · rw [List.mem_append] at hj
          rcases hj with hj | hj
          · dsimp only; rw [hG j hj]; exact hst j _ w w' (hcx.2 j hj) hbw
          · simp at hj; subst hj; dsimp only; rw [if_pos rfl]; exact hR
    by_cases hL : ∃ i ∈ late, i ∈ Region.ready .any ops listed
    · -- an extraction that is ready is taken first
      obtain ⟨i, hil, hi⟩ := hL
      obtain ⟨hin, hex, hapart⟩ := hlate i hil
      obtain ⟨hfact, go⟩ := step i hi hin
      have hguard : (opj i).guard = none := (freeLB_look hB hin hin (hop i hin) (hop i hin)).1
      obtain ⟨v, hv, hRv⟩ : ∃ v, (execOp a.eval (opj i)).run P w = .ok (.value v) w ∧ R i v w := by
        have hnc := fun fn args w' => extract_enter (P := P) hex (a := a) (w := w) (w' := w') (f := fn) (args := args)
        have hsm := fun v w' => extract_same (P := P) hex (a := a) (v := v) (w := w) (w' := w')
        generalize (execOp a.eval (opj i)).run P w = r at *
        cases r with
        | ok nx w' =>
          cases nx <;> simp only [makesUpon] at hfact
          case value u => obtain rfl := hsm u w' rfl; exact ⟨u, rfl, hfact.2⟩
          case enter fn args => exact (hnc fn args w' rfl).elim
        | halt x w' => simp only [makesUpon] at hfact
      have hyield : Yields P ops (opj i) v a := .inl ⟨want_none hguard, fun w' => extract_any hex (w := w) hv w'⟩
      refine wpAny_first (hop i hin) (Region.noSelect_spec hsel) (fun c a w h => by obtain ⟨-, d, hd, -⟩ := freeLB_look hB hin hin (hop i hin) (hop i hin); rw [hd] at h; exact hQ c a d v w h) _ listed a w (fun j oj hj hne hunj hno => ?_) hi hyield (go v w (Below.refl _ _) hRv)
      rcases hapart j oj hj hne with h1 | h1 | h1
      · obtain ⟨oi, hoi, e, he, hbd, hon⟩ := Region.waitsFor_spec h1
        obtain ⟨-, oi', hoi', hdone⟩ := mem_ready.1 hi
        have : oi = oi' := Option.some.inj (hoi.symm.trans hoi')
        subst this
        have h3 := hdone e he hbd
        rw [hon, getD_both hunj] at h3
        cases h3
      · obtain ⟨oj', hoj', e, he, hbd, hon⟩ := Region.waitsFor_spec h1
        have : oj' = oj := Option.some.inj (hoj'.symm.trans hj)
        subst this
        exact absurd hon (hno e he hbd)
      · exact h1
    -- an operation of the head has not come up yet, and it is no late one
    obtain ⟨i1, hi1, hun1⟩ : ∃ i0, i0 < n ∧ listed.getD i0 true = false := by
      have : ((List.range n).filter fun i => !listed.getD i true) ≠ [] := by intro h; rw [h] at hcount; simp at hcount
      obtain ⟨x, hx⟩ := List.exists_mem_of_ne_nil _ this
      rw [List.mem_filter] at hx
      exact ⟨x, List.mem_range.1 hx.1, by simpa using hx.2⟩
    obtain ⟨i0, hi0, hun0, hnl0⟩ : ∃ i0, i0 < n ∧ listed.getD i0 true = false ∧ i0 ∉ late := by
      apply Classical.byContradiction
      intro hcon
      have key : ∀ k, k < n → listed.getD k true = false → False := by
        intro k
        induction k using Nat.strongRecOn with
        | _ k ihk =>
          intro hk hun
          have hkl : k ∈ late := Classical.byContradiction fun h => hcon ⟨k, hk, hun, h⟩
          refine hL ⟨k, hkl, ?_⟩
          rw [mem_ready]
          refine ⟨hun, opj k, hop k hk, fun e he hbd => ?_⟩
          have hlt := freeLB_deps hB (hop k hk) e he hbd
          cases hl : listed.getD e.on false with
          | true => rfl
          | false => exact (ihk e.on hlt (by omega) (getD_in (by rw [inv.size]; omega) hl)).elim
      exact key i1 hi1 hun1
    have tw : ∀ t, n ≤ t → t ∉ Region.ready .any ops listed := fun t ht hr => by
      obtain ⟨_, ot, hot, hall⟩ := mem_ready.1 hr
      have h3 := reach_listed inv _ _ _ (hsink t ht (Array.getElem?_eq_some_iff.1 hot).1 i0 hi0 hnl0) fun ot' hot' e he hbd => hall e (Option.some.inj (hot'.symm.trans hot) ▸ he) hbd
      rw [getD_both hun0] at h3
      cases h3
    refine ⟨fun h0 => ?_, fun i hi => ?_⟩
    · exfalso
      -- the least one is ready
      have key : ∀ k, k < n → listed.getD k true = false → False := by
        intro k
        induction k using Nat.strongRecOn with
        | _ k ihk =>
          intro hk hun
          have : k ∈ Region.ready .any ops listed := by
            rw [mem_ready]
            refine ⟨hun, opj k, hop k hk, fun e he hbd => ?_⟩
            have hlt := freeLB_deps hB (hop k hk) e he hbd
            cases hl : listed.getD e.on false with
            | true => rfl
            | false => exact (ihk e.on hlt (by omega) (getD_in (by rw [inv.size]; omega) hl)).elim
          rw [h0] at this; cases this
      exact key i0 hi0 hun0
    · have hin : i < n := by
        rcases Nat.lt_or_ge i n with h | h
        · exact h
        · exact absurd hi (tw i h)
      obtain ⟨hfact, go⟩ := step i hi hin
      have hguard : (opj i).guard = none := (freeLB_look hB hin hin (hop i hin) (hop i hin)).1
      unfold wpOp
      rw [hop i hin]
      dsimp only
      rw [if_pos (want_none hguard)]
      refine .inl ?_
      unfold Oper.wp
      generalize (execOp a.eval (opj i)).run P w = r at *
      cases r with
      | ok nx w' =>
        cases nx <;> simp only [makesUpon] at hfact <;> simp only [Oper.upon]
        case value u => exact go u w' hfact.1 hfact.2
        case enter fn args =>
          obtain ⟨h1, hc⟩ := hfact
          rw [h1]
          exact hc.mono fun e w'' ⟨v, he, hbw, hR⟩ => by subst he; exact go v w'' hbw hR
      | halt x w' => simp only [makesUpon] at hfact
theorem region_freeN {id : Nat} {Q : Exit → Act → World → Prop} {a0 : Act} {w : World} {l : List Oper} (late : List Nat) (n : Nat) (R : Nat → Value → World → Prop) (hst : ∀ j v w w', R j v w → Below w.heap.size w w' → R j v w') (hm : P.follows .mixedOrders = true) (hB : freeLB l.toArray late n n = true) (hQ : ∀ c (a : Act) (d : Tmp) (v : Value) w, Q (.panic c) (a.put (some d) v) w → Q (.panic c) a w)
    (hmk : ∀ i, i < n → ∀ o, l[i]? = some o → ∀ (U : Nat → Value) (v : World), Below w.heap.size w v → (∀ k, k < i → Region.waitsFor .any l.toArray i k = true → R k (U k) v) → makesUpon P (R i) v ((execOp (putsL a0 (mks U 0 (l.take i))).eval o).run P v))
    (hfin : ∀ (U : Nat → Value) (w' : World), Below w.heap.size w w' → (∀ j, j < n → R j (U j) w') → wpList P l.toArray Q (l.drop n) (putsL a0 (mks U 0 (l.take n))) w') :
    (Code.region id l.toArray true).wp P Q a0 w := by
  have hn : n < l.toArray.size := by have h := hB; unfold freeLB at h; simp only [Bool.and_eq_true, decide_eq_true_eq] at h; exact h.2.1
  have hseq : Region.seqB .any l.toArray (l.toArray.size - n) n (Array.replicate n true ++ Array.replicate (l.toArray.size - n) false) = true := by
    have h := hB; unfold freeLB at h; simp only [Bool.and_eq_true] at h; exact h.2.2.2.2.2.2
  have hnl : n < l.length := by simpa using hn
  obtain ⟨o0, ho0⟩ : ∃ o0 : Oper, o0 ∈ l := List.exists_mem_of_ne_nil _ (by intro h; rw [h] at hnl; simp at hnl)
  obtain ⟨opj, hopj⟩ : ∃ opj : Nat → Oper, opj = fun i => l.getD i o0 := ⟨_, rfl⟩
  have hop' : ∀ i, i < n → l[i]? = some (opj i) := fun i hi => by
    have : i < l.length := by omega
    rw [hopj]; simp [this]
  have hop : ∀ i, i < n → l.toArray[i]? = some (opj i) := fun i hi => by simpa using hop' i hi
  have hmks : ∀ (U : Nat → Value) i, i ≤ n → mks U 0 (l.take i) = (List.range i).map fun k => (opj k, U k) := fun U i hi => by
    rw [mks_map U opj (l.take i) 0 (fun k hk => by
      have hk' : k < i := by simp at hk; omega
      have h1 := hop' (0 + k) (by omega)
      have h2 : (l.take i)[k]? = some (opj (0 + k)) := by rw [List.getElem?_take_of_lt hk']; rw [Nat.zero_add] at h1 ⊢; exact h1
      exact (List.getElem?_eq_some_iff.1 h2).2.symm)]
    have : (l.take i).length = i := by simp; omega
    rw [this, ← List.range_eq_range']
  refine wp_region_any hm ?_
  have inv0 : HeadInv .any l.toArray n (Array.replicate l.toArray.size false) :=
    ⟨by simp, fun j oj _ hl => (by rw [getD_replicate_false] at hl; cases hl), fun t _ ht => getD_in (by simpa using ht) (getD_replicate_false _ _)⟩
  have hr0 : ∀ k, k < l.toArray.size → (Array.replicate l.toArray.size false).getD k true = false := fun k hk => getD_in (by simpa using hk) (getD_replicate_false _ _)
  have start : FreeInvN l.toArray opj R n a0 w n (Array.replicate l.toArray.size false) a0 { w with drawn := w.drawn + 1 } := by
    refine ⟨inv0, ?_, [], fun _ => undef, rfl, List.nodup_nil, fun j => ?_, ⟨rfl, rfl, rfl, Nat.le_refl _, fun _ _ => rfl⟩, fun j hj => by simp at hj⟩
    · rw [List.filter_eq_self.2 fun k hk => by rw [hr0 k (by have := List.mem_range.1 hk; omega)]; rfl]; simp
    · constructor
      · intro h; cases h
      · intro ⟨h1, h2⟩; rw [hr0 j (by omega)] at h2; cases h2
  have hdl : (l.drop n).length = l.toArray.size - n := by simp
  have run := free_runN (P := P) (hst := hst) (late := late) (ops := l.toArray) (opj := opj) (R := R) (n := n) (g := l.toArray.size - n) (a0 := a0) (w0 := w) (Q := Q) hB hQ hop
    (fun i hi U v hv hk => by rw [← hmks U i (by omega)]; exact hmk i hi _ (hop' i hi) U v hv hk)
    (fun listed a w' hI => by
      obtain ⟨inv, hcount, js, U, ha, hnd, hmem, hcx⟩ := hI
      have hdone : ∀ k, k < n → listed.getD k true = true := fun k hk => by
        cases h : listed.getD k true with
        | true => rfl
        | false =>
          have : k ∈ (List.range n).filter fun i => !listed.getD i true := List.mem_filter.2 ⟨List.mem_range.2 hk, by rw [h]; rfl⟩
          rw [List.length_eq_zero_iff.1 hcount] at this; cases this
      have hperm : js.Perm (List.range n) := (List.perm_ext_iff_of_nodup hnd List.nodup_range).2 fun j => by
        rw [hmem j, List.mem_range]
        exact ⟨fun h => h.1, fun h => ⟨h, hdone j h⟩⟩
      have ha2 : a = putsL a0 (mks U 0 (l.take n)) := by
        rw [ha, hmks U n (Nat.le_refl _)]
        refine putsL_perm (hperm.map _) _ ?_
        rw [List.pairwise_map]
        refine List.Pairwise.imp_of_mem (fun {x y} hx hy hxy => ?_) hnd
        intro d hd he
        obtain ⟨-, d', h1, -, h2⟩ := freeLB_look hB ((hmem x).1 hx).1 ((hmem y).1 hy).1 (hop x ((hmem x).1 hx).1) (hop y ((hmem y).1 hy).1)
        dsimp only at hd he
        rw [he] at h1
        obtain rfl : d = d' := by simpa using h1
        exact h2 hxy hd
      have hlist : listed = Array.replicate n true ++ Array.replicate (l.toArray.size - n) false := by
        apply Array.ext
        · rw [inv.size]; simp; omega
        · intro k h1 h2
          by_cases hk : k < n
          · have := hdone k hk
            simp [h1] at this
            rw [this, Array.getElem_append_left (by simpa using hk)]; simp
          · have := inv.tail k (by omega) (by rw [← inv.size]; exact h1)
            simp [h1] at this
            rw [this, Array.getElem_append_right (by simp; omega)]; simp
      have ht := hfin U w' hcx.1 (fun j h1 => hcx.2 j ((hmem j).2 ⟨h1, hdone j h1⟩))
      rw [ha2, ← hdl]
      exact wpAny_of_seq (md := .any) (Q' := Q) (l.drop n) n listed _ w' (fun j => by simp [List.getElem?_drop]) (by rw [hdl, hlist]; exact hseq) ht) n _ a0 _ start
  rw [show n + (l.toArray.size - n) = l.toArray.size by omega] at run
  exact run
/-- an operation's operands, in a frame that is filled step by step -/
theorem eval_same {a : Act} {d : Nat} {v : Value} (h : d < a.tmps.size) : (a.put (some d) v).eval (.tmp d) = v := by
  simp [Act.eval, Act.put, h]
theorem eval_other {a : Act} {d k : Nat} {v : Value} (h : d ≠ k) : (a.put (some d) v).eval (.tmp k) = a.eval (.tmp k) := by
  simp [Act.eval, Act.put, Array.getElem?_setIfInBounds_ne h]
theorem eval_const {a : Act} {v : Value} : a.eval (.const v) = v := rfl
end
end Go.Proofs.Ytjclioakdmilmaa
