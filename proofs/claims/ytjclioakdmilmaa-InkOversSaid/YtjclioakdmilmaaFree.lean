/- Regions that draw their order: quiet operations and calls that only add memory, then allocations that may come anywhere among them, then a tail in one order. One walk serves every order; the new blocks' numbers are behind a for-all. -/
import Derived.Test.YtjclioakdmilmaaLater
import Derived.StillTail
namespace Go.Proofs.Ytjclioakdmilmaa
open Go.RowKit
set_option linter.unusedVariables false
/-- a world that has only grown, in which these blocks hold these objects -/
def CX (w0 : World) (X : List (Nat × Obj)) (w : World) : Prop := Below w0.heap.size w0 w ∧ ∀ p ∈ X, p.1 < w.heap.size ∧ w.heap[p.1]? = some p.2
def LaterX (w0 : World) (X : List (Nat × Obj)) : Type := { v : World // CX w0 X v }
def LaterX.wd {w0 : World} {X : List (Nat × Obj)} (m : LaterX w0 X) : World := m.1
theorem LaterX.cx {w0 : World} {X : List (Nat × Obj)} (m : LaterX w0 X) : CX w0 X m.wd := m.2
theorem LaterX.cell {w0 : World} {X : List (Nat × Obj)} (m : LaterX w0 X) {p : Addr} {v : Value} (h : w0.cell? p = some v) : m.wd.cell? p = some v := by
  rw [m.cx.1.cell (World.block_lt_of_cell? w0 _ h)]; exact h
def InX (w0 : World) (X : List (Nat × Obj)) (w' : World) : Prop := ∃ m : LaterX w0 X, w' = m.wd
theorem inX_iff {w0 : World} {X : List (Nat × Obj)} {w : World} : InX w0 X w ↔ CX w0 X w := ⟨fun ⟨m, h⟩ => h ▸ m.cx, fun h => ⟨⟨w, h⟩, rfl⟩⟩
section
variable {P : Program}
theorem laterX_of {w0 : World} {X : List (Nat × Obj)} {m : LaterX w0 X} {f : FuncId} {args : Array Value} {v : Value} (h : Calls P f args m.wd fun e w' => e = .returned v ∧ Below m.wd.heap.size m.wd w') :
    Calls P f args m.wd fun e w' => e = .returned v ∧ ∃ k : LaterX w0 X, w' = k.wd :=
  h.mono fun e w' ⟨he, hb⟩ => ⟨he, ⟨w', m.cx.1.trans (hb.mono m.cx.1.size), fun p hp => by
    obtain ⟨h1, h2⟩ := m.cx.2 p hp
    exact ⟨Nat.lt_of_lt_of_le h1 hb.size, (hb.block p.1 h1).trans h2⟩⟩, rfl⟩
/-- the slots of a list of operations, filled -/
def putsL : Act → List (Oper × Value) → Act
  | a, [] => a
  | a, p :: r => putsL (a.put p.1.dst p.2) r
theorem putsL_append (a : Act) (x y : List (Oper × Value)) : putsL a (x ++ y) = putsL (putsL a x) y := by
  induction x generalizing a with
  | nil => rfl
  | cons p x ih => exact ih _
theorem putsL_comm (o : Oper) (v : Value) (L : List (Oper × Value)) : ∀ a : Act, (∀ p ∈ L, ∀ d, o.dst = some d → p.1.dst ≠ some d) → putsL (a.put o.dst v) L = (putsL a L).put o.dst v := by
  induction L with
  | nil => intro a _; rfl
  | cons p L ih =>
    intro a h
    show putsL ((a.put o.dst v).put p.1.dst p.2) L = _
    rw [Act.put_comm a v p.2 (h p (by simp)), ih _ (fun q hq => h q (by simp [hq]))]
    rfl
theorem execOp_puts {ops : Array Oper} (o : Oper) (hs : ∀ cs b, o.op ≠ .select cs b) (L : List (Oper × Value)) : ∀ a : Act, (∀ p ∈ L, ∀ d, p.1.dst = some d → d ∉ o.looksAt ops) → execOp (putsL a L).eval o = execOp a.eval o := by
  induction L with
  | nil => intro a _; rfl
  | cons p L ih =>
    intro a h
    show execOp (putsL (a.put p.1.dst p.2) L).eval o = _
    rw [ih _ (fun q hq => h q (by simp [hq])), execOp_put (ops := ops) o hs a p.1.dst p.2 (h p (by simp))]
theorem putsL_perm {x y : List (Oper × Value)} (hp : x.Perm y) : ∀ a : Act, x.Pairwise (fun p q => ∀ d, p.1.dst = some d → q.1.dst ≠ some d) → putsL a x = putsL a y := by
  induction hp with
  | nil => intro a _; rfl
  | cons p _ ih => intro a h; exact ih _ (List.pairwise_cons.1 h).2
  | swap p q l =>
    intro a h
    show putsL ((a.put q.1.dst q.2).put p.1.dst p.2) l = putsL ((a.put p.1.dst p.2).put q.1.dst q.2) l
    rw [Act.put_comm a q.2 p.2 ((List.pairwise_cons.1 h).1 p (by simp))]
  | trans h1 _ ih1 ih2 =>
    intro a h
    have sym : ∀ p q : Oper × Value, (∀ d, p.1.dst = some d → q.1.dst ≠ some d) → (∀ d, q.1.dst = some d → p.1.dst ≠ some d) := fun p q hpq d hd he => hpq d he hd
    rw [ih1 a h, ih2 a (h.perm h1 (fun {p q} => sym p q))]
theorem size_put (a : Act) (d : Option Tmp) (v : Value) : (a.put d v).tmps.size = a.tmps.size := by unfold Act.put; split <;> simp
theorem slot_put (a : Act) (d : Nat) (v : Value) (h : d < a.tmps.size) : (a.put (some d) v).tmps[d]? = some v := by simp [Act.put, h]
theorem slot_other (a : Act) (e : Option Tmp) (d : Nat) (v : Value) (h : e ≠ some d) : (a.put e v).tmps[d]? = a.tmps[d]? := by
  unfold Act.put
  split
  · rename_i k
    have : k ≠ d := fun he => h (by rw [he])
    simp [this]
  · rfl
theorem want_none {ops : Array Oper} {o : Oper} {a : Act} (h : o.guard = none) : Region.wanted o (yielded ops a.tmps) = true := by simp [Region.wanted, h]
theorem quiet_keep {ops : Array Oper} {C : World → Prop} {A : Act} {d : Nat} : ∀ (l : List Oper) (a : Act), wpQuiet P ops C (fun a' => a' = A) l a → (∀ o ∈ l, o.guard = none) → (∀ o ∈ l, o.dst ≠ some d) → A.tmps[d]? = a.tmps[d]?
  | [], a, h, _, _ => by rw [← (h : a = A)]
  | o :: l, a, h, hg, hd => by
    unfold wpQuiet at h
    rw [if_pos (want_none (hg o (by simp)))] at h
    obtain ⟨v, -, h⟩ := h
    rw [quiet_keep l _ h (fun o ho => hg o (by simp [ho])) (fun o ho => hd o (by simp [ho])), slot_other _ _ _ _ (hd o (by simp))]
/-- the walk in the text's order: what each operation yields, whatever blocks there are besides -/
theorem pass_facts {ops : Array Oper} {w0 : World} {A : Act} : ∀ (l : List Oper) (a : Act), (∀ X, Nonempty (LaterX w0 X) → wpQuiet P ops (InX w0 X) (fun a' => a' = A) l a) → (∀ o ∈ l, o.guard = none) → (∀ o ∈ l, ∃ d, o.dst = some d ∧ d < a.tmps.size) → l.Pairwise (fun o o' => o'.dst ≠ o.dst) →
    ∃ vs : List (Oper × Value), vs.map (·.1) = l ∧ putsL a vs = A ∧ ∀ pre p post, vs = pre ++ p :: post → ∀ X w, CX w0 X w → Oper.quietUpon P (InX w0 X) w p.2 ((execOp (putsL a pre).eval p.1).run P w)
  | [], a, h, _, _, _ => ⟨[], rfl, h [] ⟨⟨w0, Below.refl _ _, fun p hp => by simp at hp⟩⟩, fun pre p post h => by simp at h⟩
  | o :: l, a, h, hg, hd, hpw => by
    obtain ⟨d, hdst, hlt⟩ := hd o (by simp)
    have hn := (List.pairwise_cons.1 hpw).1
    have hX : ∀ X, Nonempty (LaterX w0 X) → ∃ v, (∀ w, InX w0 X w → o.quietAt P a (InX w0 X) w v) ∧ wpQuiet P ops (InX w0 X) (fun a' => a' = A) l (a.put o.dst v) := fun X hn => by
      have := h X hn
      unfold wpQuiet at this
      rw [if_pos (want_none (hg o (by simp)))] at this
      exact this
    have hv : ∀ X v, wpQuiet P ops (InX w0 X) (fun a' => a' = A) l (a.put o.dst v) → A.tmps[d]? = some v := fun X v hq => by
      rw [quiet_keep l _ hq (fun o ho => hg o (by simp [ho])) (fun o' ho => by rw [← hdst]; exact hn o' ho), hdst, slot_put _ _ _ hlt]
    obtain ⟨v, -, hq0⟩ := hX [] ⟨⟨w0, Below.refl _ _, fun p hp => by simp at hp⟩⟩
    have e0 := hv [] v hq0
    have hall : ∀ X, Nonempty (LaterX w0 X) → (∀ w, InX w0 X w → o.quietAt P a (InX w0 X) w v) ∧ wpQuiet P ops (InX w0 X) (fun a' => a' = A) l (a.put o.dst v) := fun X hn => by
      obtain ⟨v', h1, h2⟩ := hX X hn
      have e1 := hv X v' h2
      rw [e0] at e1
      obtain rfl : v = v' := by simpa using e1
      exact ⟨h1, h2⟩
    obtain ⟨vs, m1, m2, m3⟩ := pass_facts l (a.put o.dst v) (fun X hn => (hall X hn).2) (fun o ho => hg o (by simp [ho])) (fun o' ho => by rw [size_put]; exact hd o' (by simp [ho])) (List.pairwise_cons.1 hpw).2
    refine ⟨(o, v) :: vs, by simp [m1], m2, fun pre p post hvs X w hw => ?_⟩
    cases pre with
    | nil =>
      simp only [List.nil_append, List.cons.injEq] at hvs
      obtain ⟨rfl, rfl⟩ := hvs
      exact (hall X ⟨⟨w, hw⟩⟩).1 w (inX_iff.2 hw)
    | cons p' pre =>
      simp only [List.cons_append, List.cons.injEq] at hvs
      obtain ⟨rfl, hvs⟩ := hvs
      exact m3 pre p post hvs X w hw
/-- what a region must be like: m quiet operations, n - m allocations, a tail -/
def freeB (ops : Array Oper) (m n : Nat) : Bool :=
  Region.noSelect ops && (decide (n < ops.size) && (Region.sinkB .any ops n && (Region.chainB .any ops n &&
  (((List.range n).all fun i => match ops[i]? with
    | some oi => oi.guard.isNone && (List.range n).all fun k => match ops[k]? with
      | some ok => (match ok.dst with
        | some d => (!(oi.looksAt ops).contains d || (decide (k < i) && (Region.waitsFor .any ops i k && decide (k < m)))) && (i == k || oi.dst != some d)
        | none => false)
      | none => false
    | none => false) &&
  (((List.range ops.size).all fun i => match ops[i]? with | some o => o.after.all (fun e => !Region.binds .any e || decide (e.on < i)) | none => true) &&
  Region.seqB .any ops (ops.size - n) n (Array.replicate n true ++ Array.replicate (ops.size - n) false))))))
theorem freeB_look {ops : Array Oper} {m n i k : Nat} {oi ok : Oper} (h : freeB ops m n = true) (hi : i < n) (hk : k < n) (hoi : ops[i]? = some oi) (hok : ops[k]? = some ok) :
    oi.guard = none ∧ ∃ d, ok.dst = some d ∧ (d ∈ oi.looksAt ops → k < i ∧ Region.waitsFor .any ops i k = true ∧ k < m) ∧ (i ≠ k → oi.dst ≠ some d) := by
  unfold freeB at h
  simp only [Bool.and_eq_true] at h
  have h1 := h.2.2.2.2.1
  rw [List.all_eq_true] at h1
  have h2 := h1 i (List.mem_range.2 hi)
  rw [hoi] at h2
  simp only [Bool.and_eq_true, List.all_eq_true, List.mem_range] at h2
  obtain ⟨hg, h3⟩ := h2
  have h4 := h3 k hk
  rw [hok] at h4
  dsimp only at h4
  refine ⟨by simpa using hg, ?_⟩
  cases hd : ok.dst with
  | none => rw [hd] at h4; simp at h4
  | some d =>
    rw [hd] at h4
    simp only [Bool.and_eq_true, Bool.or_eq_true, Bool.not_eq_true', decide_eq_true_eq, beq_iff_eq, bne_iff_ne] at h4
    refine ⟨d, rfl, fun hl => ?_, fun hne => ?_⟩
    · rcases h4.1 with h5 | h5
      · exact absurd hl (by simpa using h5)
      · exact h5
    · rcases h4.2 with h5 | h5
      · exact absurd h5 hne
      · exact h5
theorem freeB_deps {ops : Array Oper} {m n i : Nat} {o : Oper} (h : freeB ops m n = true) (ho : ops[i]? = some o) : ∀ e ∈ o.after, Region.binds .any e = true → e.on < i := by
  unfold freeB at h
  simp only [Bool.and_eq_true] at h
  have h1 := h.2.2.2.2.2.1
  rw [List.all_eq_true] at h1
  have h2 := h1 i (List.mem_range.2 (Array.getElem?_eq_some_iff.1 ho).1)
  rw [ho] at h2
  dsimp only at h2
  intro e he hb
  have h3 := Array.all_eq_true_iff_forall_mem.1 h2 e he
  simp only [Bool.or_eq_true, Bool.not_eq_true', decide_eq_true_eq] at h3
  rcases h3 with h3 | h3
  · rw [hb] at h3; cases h3
  · exact h3
theorem rem_split {listed : Array Bool} {i K : Nat} (hi : listed.getD i true = false) (hK : i < K) : ∃ x y : List Nat, ((List.range K).filter fun k => !listed.getD k true) = x ++ i :: y ∧ ((List.range K).filter fun k => !(listed.setIfInBounds i true).getD k true) = x ++ y ∧
    (∀ k ∈ x, k < i ∧ listed.getD k true = false) ∧ (∀ k ∈ y, i < k ∧ k < K ∧ listed.getD k true = false) := by
  have hr : List.range K = List.range i ++ i :: List.range' (i + 1) (K - i - 1) := by
    rw [List.range_eq_range', List.range_eq_range', show K = i + (K - i - 1 + 1) by omega, ← List.range'_append_1, List.range'_succ]
    simp
  have hset : (listed.setIfInBounds i true).getD i true = true := by
    rcases Nat.lt_or_ge i listed.size with h | h
    · simp [h]
    · simp [Array.getElem?_eq_none h] at hi
  have hx : ∀ k, k ≠ i → (listed.setIfInBounds i true).getD k true = listed.getD k true := fun k hk => getD_set_ne true (Ne.symm hk)
  refine ⟨(List.range i).filter fun k => !listed.getD k true, (List.range' (i + 1) (K - i - 1)).filter fun k => !listed.getD k true, ?_, ?_, ?_, ?_⟩
  · rw [hr, List.filter_append, List.filter_cons]; simp [hi]
  · rw [hr, List.filter_append, List.filter_cons]
    simp only [hset, Bool.not_true, Bool.false_eq_true, if_false]
    congr 1
    · exact List.filter_congr fun k hk => by rw [hx k (by have := List.mem_range.1 hk; omega)]
    · exact List.filter_congr fun k hk => by rw [hx k (by have := List.mem_range'_1.1 hk; omega)]
  · intro k hk
    rw [List.mem_filter] at hk
    exact ⟨List.mem_range.1 hk.1, by simpa using hk.2⟩
  · intro k hk
    rw [List.mem_filter, List.mem_range'_1] at hk
    exact ⟨by omega, by omega, by simpa using hk.2⟩
theorem rem_same {listed : Array Bool} {i K : Nat} (hK : K ≤ i) : ((List.range K).filter fun k => !(listed.setIfInBounds i true).getD k true) = (List.range K).filter fun k => !listed.getD k true :=
  List.filter_congr fun k hk => by rw [getD_set_ne true (by have := List.mem_range.1 hk; omega)]
/-- what holds while the quiet operations and the allocations come up -/
def FreeInv (ops : Array Oper) (opj : Nat → Oper) (V : Nat → Value) (obj : Nat → Obj) (m n : Nat) (A : Act) (w0 : World) (f : Nat) (listed : Array Bool) (a : Act) (w : World) : Prop :=
  HeadInv .any ops n listed ∧ ((List.range n).filter fun i => !listed.getD i true).length = f ∧
  ∃ (b : Act) (js : List Nat) (G : Nat → Nat), putsL b (((List.range m).filter fun i => !listed.getD i true).map fun i => (opj i, V i)) = A ∧ a = putsL b (js.map fun j => (opj j, Value.pointer (some ⟨G j, 0, none⟩))) ∧
    js.Nodup ∧ (∀ j, j ∈ js ↔ m ≤ j ∧ j < n ∧ listed.getD j true = true) ∧ CX w0 (js.map fun j => (G j, obj j)) w ∧ (∀ j ∈ js, w0.heap.size ≤ G j) ∧ js.Pairwise (fun i j => G i ≠ G j)
/-- the pointers to the new blocks, in the text's order -/
def ptrs (G : Nat → Nat) : Nat → List Oper → List (Oper × Value)
  | _, [] => []
  | j, o :: r => (o, .pointer (some ⟨G j, 0, none⟩)) :: ptrs G (j + 1) r
theorem ptrs_map (G : Nat → Nat) (opj : Nat → Oper) : ∀ (l : List Oper) (j : Nat), (∀ i (h : i < l.length), opj (j + i) = l[i]) → ptrs G j l = (List.range' j l.length).map fun i => (opj i, Value.pointer (some ⟨G i, 0, none⟩))
  | [], j, _ => rfl
  | o :: l, j, h => by
    have h0 := h 0 (by simp)
    simp only [Nat.add_zero, List.getElem_cons_zero] at h0
    rw [List.length_cons, List.range'_succ, List.map_cons, h0]
    show _ :: ptrs G (j + 1) l = _
    rw [ptrs_map G opj l (j + 1) (fun i hi => by
      have := h (i + 1) (by simpa using hi)
      rw [show j + (i + 1) = j + 1 + i by omega] at this
      simpa using this)]
set_option maxHeartbeats 1000000 in
theorem free_run {ops : Array Oper} {opj : Nat → Oper} {V : Nat → Value} {obj : Nat → Obj} {m n g : Nat} {A a0 : Act} {w0 : World} {Q : Exit → Act → World → Prop} (hmn : m ≤ n) (hB : freeB ops m n = true) (hop : ∀ i, i < n → ops[i]? = some (opj i))
    (hal : ∀ j, m ≤ j → j < n → ∀ (a : Act) (v : World), (execOp a.eval (opj j)).run P v = .ok (.value (.pointer (some ⟨v.heap.size, 0, none⟩))) (v.alloc (obj j)))
    (hA : putsL a0 ((List.range m).map fun i => (opj i, V i)) = A)
    (hq : ∀ i, i < m → ∀ X w, CX w0 X w → Oper.quietUpon P (InX w0 X) w (V i) ((execOp (putsL a0 ((List.range i).map fun i => (opj i, V i))).eval (opj i)).run P w))
    (hend : ∀ listed a w, FreeInv ops opj V obj m n A w0 0 listed a w → wpAny P .any ops Q g listed a w) :
    ∀ (f : Nat) (listed : Array Bool) (a : Act) (w : World), FreeInv ops opj V obj m n A w0 f listed a w → wpAny P .any ops Q (f + g) listed a w := by
  have hsel : Region.noSelect ops = true := by unfold freeB at hB; simp only [Bool.and_eq_true] at hB; exact hB.1
  have hn : n < ops.size := by unfold freeB at hB; simp only [Bool.and_eq_true, decide_eq_true_eq] at hB; exact hB.2.1
  have hsink : Region.sinkB .any ops n = true := by unfold freeB at hB; simp only [Bool.and_eq_true] at hB; exact hB.2.2.1
  have hchain : Region.chainB .any ops n = true := by unfold freeB at hB; simp only [Bool.and_eq_true] at hB; exact hB.2.2.2.1
  have hs : ∀ i, i < n → ∀ cs b, (opj i).op ≠ .select cs b := fun i hi cs b => Region.noSelect_spec hsel i _ cs b (hop i hi)
  have look : ∀ i k, i < n → k < n → ∀ d, (opj k).dst = some d → d ∈ (opj i).looksAt ops → k < i ∧ Region.waitsFor .any ops i k = true ∧ k < m := fun i k hi hk d hd hl => by
    obtain ⟨-, d', h1, h2, -⟩ := freeB_look hB hi hk (hop i hi) (hop k hk)
    rw [hd] at h1
    obtain rfl : d = d' := by simpa using h1
    exact h2 hl
  have dif : ∀ i k, i < n → k < n → i ≠ k → ∀ d, (opj k).dst = some d → (opj i).dst ≠ some d := fun i k hi hk hne d hd => by
    obtain ⟨-, d', h1, -, h3⟩ := freeB_look hB hi hk (hop i hi) (hop k hk)
    rw [hd] at h1
    obtain rfl : d = d' := by simpa using h1
    exact h3 hne
  intro f
  induction f with
  | zero => intro listed a w h; rw [Nat.zero_add]; exact hend listed a w h
  | succ f ih =>
    intro listed a w ⟨inv, hcount, b, js, G, hb, ha, hnd, hmem, hcx, hbase, hpw⟩
    rw [show f + 1 + g = (f + g) + 1 by omega]
    -- an operation of the head has not come up yet
    obtain ⟨i0, hi0, hun0⟩ : ∃ i0, i0 < n ∧ listed.getD i0 true = false := by
      have : ((List.range n).filter fun i => !listed.getD i true) ≠ [] := by intro h; rw [h] at hcount; simp at hcount
      obtain ⟨x, hx⟩ := List.exists_mem_of_ne_nil _ this
      rw [List.mem_filter] at hx
      exact ⟨x, List.mem_range.1 hx.1, by simpa using hx.2⟩
    have tw := tail_waits hsink hchain hn inv _ i0 rfl hi0 hun0
    refine ⟨fun h0 => ?_, fun i hi => ?_⟩
    · exfalso
      -- the least one is ready
      have key : ∀ k, k < n → listed.getD k true = false → False := by
        intro k
        induction k using Nat.strongRecOn with
        | _ k ihk =>
          intro hk hun
          have : k ∈ Region.ready .any ops listed := by
            rw [mem_ready]
            refine ⟨hun, opj k, hop k hk, fun e he hbd => ?_⟩
            have hlt := freeB_deps hB (hop k hk) e he hbd
            cases hl : listed.getD e.on false with
            | true => rfl
            | false => exact (ihk e.on hlt (by omega) (getD_in (by rw [inv.size]; omega) hl)).elim
          rw [h0] at this; cases this
      exact key i0 hi0 hun0
    · have hin : i < n := by
        rcases Nat.lt_or_ge i n with h | h
        · exact h
        · exact absurd hi (tw i h)
      have hun := (mem_ready.1 hi).1
      obtain ⟨x, y, e1, e2, hx, hy⟩ := rem_split hun hin
      have hcount2 : ((List.range n).filter fun k => !(listed.setIfInBounds i true).getD k true).length = f := by
        rw [e2]; rw [e1] at hcount; simp at hcount ⊢; omega
      have hguard : (opj i).guard = none := (freeB_look hB hin hin (hop i hin) (hop i hin)).1
      have hi_notin : i ∉ js := fun h => by have := ((hmem i).1 h).2.2; rw [hun] at this; cases this
      have hjs : ∀ j ∈ js, m ≤ j ∧ j < n ∧ j ≠ i := fun j hj => ⟨((hmem j).1 hj).1, ((hmem j).1 hj).2.1, fun h => hi_notin (h ▸ hj)⟩
      have hset : ∀ k, (listed.setIfInBounds i true).getD k true = if k = i then true else listed.getD k true := fun k => by
        by_cases hki : k = i
        · subst hki
          rw [if_pos rfl]
          rcases Nat.lt_or_ge k listed.size with h | h
          · simp [h]
          · have := hin; have h2 := inv.size; omega
        · rw [if_neg hki]; exact getD_set_ne true (Ne.symm hki)
      unfold wpOp
      rw [hop i hin]
      dsimp only
      rw [if_pos (want_none hguard)]
      refine .inl ?_
      rcases Nat.lt_or_ge i m with him | him
      · -- a quiet operation
        obtain ⟨x, y, f1, f2, hx, hy⟩ := rem_split hun him
        rw [f1, List.map_append, List.map_cons, putsL_append] at hb
        have hb' : putsL (b.put (opj i).dst (V i)) ((x ++ y).map fun i => (opj i, V i)) = A := by
          rw [List.map_append, putsL_append, putsL_comm (opj i) (V i)]
          · exact hb
          · intro p hp d hd
            obtain ⟨k, hk, rfl⟩ := List.mem_map.1 hp
            exact dif k i (by have := (hx k hk).1; omega) hin (by have := (hx k hk).1; omega) d hd
        have ha' : ∀ v, a.put (opj i).dst v = putsL (b.put (opj i).dst v) (js.map fun j => (opj j, Value.pointer (some ⟨G j, 0, none⟩))) := fun v => by
          rw [ha, putsL_comm (opj i) v]
          intro p hp d hd
          obtain ⟨j, hj, rfl⟩ := List.mem_map.1 hp
          exact dif j i (hjs j hj).2.1 hin (hjs j hj).2.2 d hd
        have hexec : execOp a.eval (opj i) = execOp (putsL a0 ((List.range i).map fun i => (opj i, V i))).eval (opj i) := by
          have t1 : execOp a.eval (opj i) = execOp b.eval (opj i) := by
            rw [ha]
            refine execOp_puts (ops := ops) _ (hs i hin) _ _ fun p hp d hd hl => ?_
            obtain ⟨j, hj, rfl⟩ := List.mem_map.1 hp
            have h1 := (look i j hin (hjs j hj).2.1 d hd hl).2.2
            have h2 := (hjs j hj).1
            omega
          have t2 : execOp A.eval (opj i) = execOp b.eval (opj i) := by
            rw [← hb]
            rw [← List.map_cons (f := fun i => (opj i, V i)), ← putsL_append, ← List.map_append]
            refine execOp_puts (ops := ops) _ (hs i hin) _ _ fun p hp d hd hl => ?_
            obtain ⟨k, hk, rfl⟩ := List.mem_map.1 hp
            have hkn : k < n ∧ listed.getD k true = false := by
              rw [List.mem_append, List.mem_cons] at hk
              rcases hk with hk | rfl | hk
              · exact ⟨by have := (hx k hk).1; omega, (hx k hk).2⟩
              · exact ⟨hin, hun⟩
              · exact ⟨by have := (hy k hk).2.1; omega, (hy k hk).2.2⟩
            obtain ⟨h1, h2, -⟩ := look i k hin hkn.1 d hd hl
            obtain ⟨oj, hoj, e, he, hbd, hon⟩ := Region.waitsFor_spec h2
            obtain ⟨-, oi, hoi, hdone⟩ := mem_ready.1 hi
            have : oj = oi := Option.some.inj (hoj.symm.trans hoi)
            subst this
            have h3 := hdone e he hbd
            rw [hon, getD_both hkn.2] at h3
            cases h3
          have t3 : execOp A.eval (opj i) = execOp (putsL a0 ((List.range i).map fun i => (opj i, V i))).eval (opj i) := by
            rw [← hA]
            have hr : List.range m = List.range i ++ List.range' i (m - i) := by
              rw [List.range_eq_range', List.range_eq_range', show m = i + (m - i) by omega, ← List.range'_append_1]; simp
            rw [hr, List.map_append, putsL_append]
            refine execOp_puts (ops := ops) _ (hs i hin) _ _ fun p hp d hd hl => ?_
            obtain ⟨k, hk, rfl⟩ := List.mem_map.1 hp
            rw [List.mem_range'_1] at hk
            have := (look i k hin (by omega) d hd hl).1
            omega
          rw [t1, ← t2, t3]
        have hfact := hq i him _ w hcx
        rw [← hexec] at hfact
        have go : ∀ w', CX w0 (js.map fun j => (G j, obj j)) w' → wpAny P .any ops Q (f + g) (listed.setIfInBounds i true) (a.put (opj i).dst (V i)) w' := fun w' hw' => by
          refine ih _ _ _ ⟨inv.set hi hin, hcount2, b.put (opj i).dst (V i), js, G, by rw [f2]; exact hb', ha' _, hnd, fun j => ?_, hw', hbase, hpw⟩
          rw [hmem j, hset j]
          by_cases hji : j = i
          · subst hji; simp only [if_true]; constructor
            · intro h; omega
            · intro h; omega
          · rw [if_neg hji]
        unfold Oper.wp
        generalize (execOp a.eval (opj i)).run P w = r at *
        cases r with
        | ok nx w' =>
          cases nx <;> simp only [Oper.quietUpon] at hfact <;> simp only [Oper.upon]
          case value u => obtain ⟨h1, h2⟩ := hfact; rw [h1, h2]; exact go w hcx
          case skip => obtain ⟨h1, h2⟩ := hfact; rw [h1, ← h2]; exact go w hcx
          case enter fn args =>
            obtain ⟨h1, hc⟩ := hfact
            rw [h1]
            exact hc.mono fun e w'' ⟨he, hw''⟩ => by subst he; exact go w'' (inX_iff.1 hw'')
        | halt x w' => simp only [Oper.quietUpon] at hfact
      · -- an allocation
        unfold Oper.wp
        rw [hal i him hin a w]
        simp only [Oper.upon]
        have hG : ∀ j ∈ js, (if j = i then w.heap.size else G j) = G j := fun j hj => if_neg (hjs j hj).2.2
        refine ih _ _ _ ⟨inv.set hi hin, hcount2, b, js ++ [i], fun j => if j = i then w.heap.size else G j, by rw [rem_same him]; exact hb, ?_, ?_, fun j => ?_, ⟨?_, fun p hp => ?_⟩, fun j hj => ?_, ?_⟩
        · rw [List.map_append, putsL_append, ha]
          have : (js.map fun j => (opj j, Value.pointer (some ⟨if j = i then w.heap.size else G j, 0, none⟩))) = js.map fun j => (opj j, Value.pointer (some ⟨G j, 0, none⟩)) := List.map_congr_left fun j hj => by rw [hG j hj]
          rw [this]
          simp [putsL]
        · rw [List.nodup_append]
          exact ⟨hnd, by simp, fun a ha b hb => by simp at hb; subst hb; exact (hjs a ha).2.2⟩
        · rw [List.mem_append, hmem j, hset j]
          by_cases hji : j = i
          · subst hji; simp; omega
          · rw [if_neg hji]; simp [hji]
        · exact hcx.1.alloc hcx.1.size _
        · rw [List.map_append, List.mem_append] at hp
          rcases hp with hp | hp
          · obtain ⟨j, hj, rfl⟩ := List.mem_map.1 hp
            dsimp only
            rw [hG j hj]
            obtain ⟨h1, h2⟩ := hcx.2 (G j, obj j) (List.mem_map.2 ⟨j, hj, rfl⟩)
            exact ⟨by simp; exact Nat.lt_succ_of_lt h1, by rw [Below.heap_alloc _ _ _ h1]; exact h2⟩
          · simp at hp
            subst hp
            exact ⟨by simp, by show (w.heap.push (obj i))[w.heap.size]? = _; simp⟩
        · rw [List.mem_append] at hj
          rcases hj with hj | hj
          · dsimp only; rw [hG j hj]; exact hbase j hj
          · simp at hj; subst hj; dsimp only; rw [if_pos rfl]; exact hcx.1.size
        · rw [List.pairwise_append]
          refine ⟨List.Pairwise.imp_of_mem (fun {a b} ha hb h => by dsimp only; rw [hG a ha, hG b hb]; exact h) hpw, by simp, fun a ha b hb => ?_⟩
          simp at hb; subst hb
          dsimp only
          rw [hG a ha, if_pos rfl]
          have := (hcx.2 (G a, obj a) (List.mem_map.2 ⟨a, ha, rfl⟩)).1
          exact Nat.ne_of_lt this
/-- **ONE WALK SERVES EVERY ORDER**, allocations among the calls included: behind the quiet operations the frame is A; the new blocks' numbers are whatever they are. -/
theorem wp_region_free {id : Nat} {Q : Exit → Act → World → Prop} {a0 : Act} {w : World} {l : List Oper} (m n : Nat) (obj : Nat → Obj) (hm : P.follows .mixedOrders = true) (hmn : m ≤ n) (hB : freeB l.toArray m n = true)
    (hsz : ∀ i, i < m → ∀ o, l[i]? = some o → ∀ d, o.dst = some d → d < a0.tmps.size)
    (hal : ∀ j, m ≤ j → j < n → ∀ o, l[j]? = some o → ∀ (a : Act) (v : World), (execOp a.eval o).run P v = .ok (.value (.pointer (some ⟨v.heap.size, 0, none⟩))) (v.alloc (obj j)))
    (A : Act) (hq : ∀ X, Nonempty (LaterX w X) → wpQuiet P l.toArray (InX w X) (fun a' => a' = A) (l.take m) a0)
    (hfin : ∀ (G : Nat → Nat) (w' : World), Below w.heap.size w w' → (∀ j, m ≤ j → j < n → w.heap.size ≤ G j ∧ G j < w'.heap.size ∧ w'.heap[G j]? = some (obj j)) → (∀ i j, m ≤ i → i < n → m ≤ j → j < n → i ≠ j → G i ≠ G j) →
      wpList P l.toArray Q (l.drop n) (putsL A (ptrs G m ((l.take n).drop m))) w') :
    (Code.region id l.toArray true).wp P Q a0 w := by
  have hn : n < l.toArray.size := by have h := hB; unfold freeB at h; simp only [Bool.and_eq_true, decide_eq_true_eq] at h; exact h.2.1
  have hseq : Region.seqB .any l.toArray (l.toArray.size - n) n (Array.replicate n true ++ Array.replicate (l.toArray.size - n) false) = true := by
    have h := hB; unfold freeB at h; simp only [Bool.and_eq_true] at h; exact h.2.2.2.2.2.2
  have hnl : n < l.length := by simpa using hn
  obtain ⟨o0, ho0⟩ : ∃ o0 : Oper, o0 ∈ l := List.exists_mem_of_ne_nil _ (by intro h; rw [h] at hnl; simp at hnl)
  obtain ⟨opj, hopj⟩ : ∃ opj : Nat → Oper, opj = fun i => l.getD i o0 := ⟨_, rfl⟩
  have hop' : ∀ i, i < n → l[i]? = some (opj i) := fun i hi => by
    have : i < l.length := by omega
    rw [hopj]; simp [this]
  have hop : ∀ i, i < n → l.toArray[i]? = some (opj i) := fun i hi => by simpa using hop' i hi
  have htl : (l.take m).length = m := by simp; omega
  have mem_take : ∀ o ∈ l.take m, ∃ i, i < m ∧ l[i]? = some o := fun o ho => by
    obtain ⟨i, hi, he⟩ := List.getElem_of_mem ho
    rw [htl] at hi
    refine ⟨i, hi, ?_⟩
    rw [← he]; simp
  obtain ⟨vs, v1, v2, v3⟩ := pass_facts (P := P) (ops := l.toArray) (w0 := w) (A := A) (l.take m) a0 hq
    (fun o ho => by
      obtain ⟨i, hi, he⟩ := mem_take o ho
      exact (freeB_look hB (show i < n by omega) (show i < n by omega) (by simpa using he) (by simpa using he)).1)
    (fun o ho => by
      obtain ⟨i, hi, he⟩ := mem_take o ho
      obtain ⟨-, d, h1, -⟩ := freeB_look hB (show i < n by omega) (show i < n by omega) (oi := o) (ok := o) (by simpa using he) (by simpa using he)
      exact ⟨d, h1, hsz i hi o he d h1⟩)
    (List.pairwise_iff_getElem.2 fun i j hi hj hij => by
      rw [htl] at hi hj
      obtain ⟨-, d, h1, -, h2⟩ := freeB_look hB (show j < n by omega) (show i < n by omega) (oi := (l.take m)[j]) (ok := (l.take m)[i]) (by simp) (by simp)
      rw [h1]; exact h2 (by omega))
  have hvl : vs.length = m := by rw [← htl, ← v1]; simp
  obtain ⟨V, hV⟩ : ∃ V : Nat → Value, V = fun i => (vs[i]?.map (·.2)).getD undef := ⟨_, rfl⟩
  have hvs : vs = (List.range m).map fun i => (opj i, V i) := by
    apply List.ext_getElem
    · simp [hvl]
    · intro i h1 h2
      rw [hvl] at h1
      have e1 : (vs.map (·.1))[i]? = (l.take m)[i]? := by rw [v1]
      have e2 : (l.take m)[i]? = some (opj i) := by rw [List.getElem?_take_of_lt h1]; exact hop' i (by omega)
      rw [e2] at e1
      have hi : i < vs.length := by omega
      simp [hi] at e1
      simp [hV, hi]
      rw [← e1]
  refine wp_region_any hm ?_
  have inv0 : HeadInv .any l.toArray n (Array.replicate l.toArray.size false) :=
    ⟨by simp, fun j oj _ hl => (by rw [getD_replicate_false] at hl; cases hl), fun t _ ht => getD_in (by simpa using ht) (getD_replicate_false _ _)⟩
  have hr0 : ∀ k, k < l.toArray.size → (Array.replicate l.toArray.size false).getD k true = false := fun k hk => getD_in (by simpa using hk) (getD_replicate_false _ _)
  have start : FreeInv l.toArray opj V obj m n A w n (Array.replicate l.toArray.size false) a0 { w with drawn := w.drawn + 1 } := by
    refine ⟨inv0, ?_, a0, [], fun _ => 0, ?_, rfl, List.nodup_nil, fun j => ?_, ⟨⟨rfl, rfl, rfl, Nat.le_refl _, fun _ _ => rfl⟩, fun p hp => by simp at hp⟩, fun j hj => by simp at hj, List.Pairwise.nil⟩
    · rw [List.filter_eq_self.2 fun k hk => by rw [hr0 k (by have := List.mem_range.1 hk; omega)]; rfl]; simp
    · rw [List.filter_eq_self.2 fun k hk => by rw [hr0 k (by have := List.mem_range.1 hk; omega)]; rfl, ← hvs]; exact v2
    · constructor
      · intro h; cases h
      · intro ⟨_, h1, h2⟩; rw [hr0 j (by omega)] at h2; cases h2
  have hdl : (l.drop n).length = l.toArray.size - n := by simp
  have run := free_run (P := P) (ops := l.toArray) (opj := opj) (V := V) (obj := obj) (m := m) (n := n) (g := l.toArray.size - n) (A := A) (a0 := a0) (w0 := w) (Q := Q) hmn hB hop
    (fun j h1 h2 a v => hal j h1 h2 _ (hop' j h2) a v) (by rw [← hvs]; exact v2)
    (fun i hi X w' hw' => by
      have hr : List.range m = List.range i ++ i :: List.range' (i + 1) (m - i - 1) := by
        rw [List.range_eq_range', List.range_eq_range', show m = i + (m - i - 1 + 1) by omega, ← List.range'_append_1, List.range'_succ]; simp
      exact v3 ((List.range i).map fun i => (opj i, V i)) (opj i, V i) ((List.range' (i + 1) (m - i - 1)).map fun i => (opj i, V i)) (by rw [hvs, hr]; simp) X w' hw')
    (fun listed a w' hI => by
      obtain ⟨inv, hcount, b, js, G, hb, ha, hnd, hmem, hcx, hbase, hpw⟩ := hI
      have hdone : ∀ k, k < n → listed.getD k true = true := fun k hk => by
        cases h : listed.getD k true with
        | true => rfl
        | false =>
          have : k ∈ (List.range n).filter fun i => !listed.getD i true := List.mem_filter.2 ⟨List.mem_range.2 hk, by rw [h]; rfl⟩
          rw [List.length_eq_zero_iff.1 hcount] at this; cases this
      have hrm : ((List.range m).filter fun i => !listed.getD i true) = [] := List.filter_eq_nil_iff.2 fun k hk => by rw [hdone k (by have := List.mem_range.1 hk; omega)]; simp
      rw [hrm] at hb
      have hbA : b = A := hb
      subst hbA
      have hperm : js.Perm (List.range' m (n - m)) := (List.perm_ext_iff_of_nodup hnd List.nodup_range').2 fun j => by
        rw [hmem j, List.mem_range'_1]
        constructor
        · intro ⟨h1, h2, _⟩; omega
        · intro ⟨h1, h2⟩; exact ⟨h1, by omega, hdone j (by omega)⟩
      have hjs : ∀ j, m ≤ j → j < n → j ∈ js := fun j h1 h2 => (hmem j).2 ⟨h1, h2, hdone j h2⟩
      have hlen : ((l.take n).drop m).length = n - m := by simp; omega
      have ha2 : a = putsL b (ptrs G m ((l.take n).drop m)) := by
        rw [ha, ptrs_map G opj ((l.take n).drop m) m (fun i hi => by
          rw [hlen] at hi
          have h1 := hop' (m + i) (by omega)
          have h2 : ((l.take n).drop m)[i]? = some (opj (m + i)) := by rw [List.getElem?_drop, List.getElem?_take_of_lt (by omega)]; exact h1
          have h3 := (List.getElem?_eq_some_iff.1 h2)
          exact h3.2.symm), hlen]
        refine putsL_perm (hperm.map _) _ ?_
        rw [List.pairwise_map]
        refine List.Pairwise.imp_of_mem (fun {x y} hx hy hxy => ?_) hnd
        intro d hd he
        obtain ⟨-, d', h1, -, h2⟩ := freeB_look hB ((hmem x).1 hx).2.1 ((hmem y).1 hy).2.1 (hop x ((hmem x).1 hx).2.1) (hop y ((hmem y).1 hy).2.1)
        dsimp only at hd he
        rw [he] at h1
        obtain rfl : d = d' := by simpa using h1
        exact h2 hxy hd
      have hlist : listed = Array.replicate n true ++ Array.replicate (l.toArray.size - n) false := by
        apply Array.ext
        · rw [inv.size]; simp; omega
        · intro k h1 h2
          by_cases hk : k < n
          · have := hdone k hk
            simp [h1] at this
            rw [this, Array.getElem_append_left (by simpa using hk)]; simp
          · have := inv.tail k (by omega) (by rw [← inv.size]; exact h1)
            simp [h1] at this
            rw [this, Array.getElem_append_right (by simp; omega)]; simp
      have ht := hfin G w' hcx.1 (fun j h1 h2 => ⟨hbase j (hjs j h1 h2), hcx.2 (G j, obj j) (List.mem_map.2 ⟨j, hjs j h1 h2, rfl⟩)⟩) (fun i j i1 i2 j1 j2 hne => by
        intro he
        have : ∀ (L : List Nat), L.Nodup → L.Pairwise (fun i j => G i ≠ G j) → i ∈ L → j ∈ L → False := by
          intro L hL hP hi hj
          rcases List.mem_iff_getElem.1 hi with ⟨x, hx, rfl⟩
          rcases List.mem_iff_getElem.1 hj with ⟨y, hy, rfl⟩
          rcases Nat.lt_trichotomy x y with h | h | h
          · exact (List.pairwise_iff_getElem.1 hP) x y hx hy h he
          · subst h; exact hne rfl
          · exact (List.pairwise_iff_getElem.1 hP) y x hy hx h he.symm
        exact this js hnd hpw (hjs i i1 i2) (hjs j j1 j2))
      rw [ha2, ← hdl]
      exact wpAny_of_seq (md := .any) (Q' := Q) (l.drop n) n listed _ w' (fun j => by simp [List.getElem?_drop]) (by rw [hdl, hlist]; exact hseq) ht) n _ a0 _ start
  rw [show n + (l.toArray.size - n) = l.toArray.size by omega] at run
  exact run
def dstB (N : Nat) (l : List Oper) : Bool := l.all fun o => match o.dst with | some d => decide (d < N) | none => true
def allocB (T : TypeId) (l : List Oper) : Bool := l.all fun o => match o.op with | .alloc t => t == T | _ => false
/-- the same, for allocations of one type, the side conditions as Bools -/
theorem region_free {id : Nat} {Q : Exit → Act → World → Prop} {a0 : Act} {w : World} {l : List Oper} (m n N : Nat) (T : TypeId) (obj : Obj) (hm : P.follows .mixedOrders = true) (hmn : m ≤ n) (hB : freeB l.toArray m n = true)
    (hN : a0.tmps.size = N) (hszB : dstB N (l.take m) = true) (haB : allocB T ((l.take n).drop m) = true)
    (hal : ∀ o : Oper, o.op = .alloc T → ∀ (a : Act) (v : World), (execOp a.eval o).run P v = .ok (.value (.pointer (some ⟨v.heap.size, 0, none⟩))) (v.alloc obj))
    (h : ∃ A : Act, (∀ X, Nonempty (LaterX w X) → wpQuiet P l.toArray (fun w' => ∃ m : LaterX w X, w' = m.wd) (fun a' => a' = A) (l.take m) a0) ∧
      (∀ (G : Nat → Nat) (w' : World), Below w.heap.size w w' → (∀ j, m ≤ j → j < n → w.heap.size ≤ G j ∧ G j < w'.heap.size ∧ w'.heap[G j]? = some obj) → (∀ i j, m ≤ i → i < n → m ≤ j → j < n → i ≠ j → G i ≠ G j) →
      wpList P l.toArray Q (l.drop n) (putsL A (ptrs G m ((l.take n).drop m))) w')) :
    (Code.region id l.toArray true).wp P Q a0 w := by
  obtain ⟨A, hq, hfin⟩ := h
  refine wp_region_free m n (fun _ => obj) hm hmn hB (fun i hi o ho d hd => ?_) (fun j h1 h2 o ho a v => ?_) A hq hfin
  · unfold dstB at hszB
    rw [List.all_eq_true] at hszB
    have h := hszB o (List.mem_iff_getElem?.2 ⟨i, by rw [List.getElem?_take_of_lt hi]; exact ho⟩)
    rw [hd] at h
    rw [hN]; simpa using h
  · unfold allocB at haB
    rw [List.all_eq_true] at haB
    have h := haB o (List.mem_iff_getElem?.2 ⟨j - m, by rw [List.getElem?_drop, show m + (j - m) = j by omega, List.getElem?_take_of_lt h2]; exact ho⟩)
    refine hal o ?_ a v
    cases hop : o.op <;> rw [hop] at h <;> simp at h
    rw [h]
end
end Go.Proofs.Ytjclioakdmilmaa
