/- Operations and plates as arguments: how they are opened to their numbers, and that they read the same in a world that has only grown. -/
import Derived.Test.YtjclioakdmilmaaGeoOpen
import Derived.Test.YtjclioakdmilmaaInkN
import Derived.Deep.Slices
import Derived.ChangeReads
namespace Go.Proofs.Ytjclioakdmilmaa
open Go.ChangeShapes Go.WideShapes Go.ChangeAt Go.RowKit Go.Joins Go.Deep
open Num Ink
set_option linter.unusedVariables false
section
variable {H : Type} {enc : TypeId × Value → H} {P : Program}
/-- a value of this type reads the same when only the spare cells of the blocks that were met are read -/
def SpOK (enc : TypeId × Value → H) (P : Program) (t : TypeId) : Prop :=
  ∀ (W : World) (sp : Nat → Bool) (n : Nat) (cs : List Value) (x : DataW H × List MemPlace), DataW.trod enc P W 0 (fun _ => true) true n t cs = some x → (∀ p ∈ x.2, sp p.block = true) → DataW.trod enc P W 0 sp true n t cs = some x
theorem sp_int {t : TypeId} {k : IntKind} (ht : P.underlying t = some (.int k)) : SpOK enc P t := by
  intro W sp n cs x h _
  cases n with
  | zero => simp [DataW.trod] at h
  | succ n =>
    obtain ⟨z, rfl, rfl, w⟩ := DataW.trod_int ht h
    exact trod_int_mk n ht w
theorem sp_struct {t : TypeId} {fs : Array Field} (ht : P.underlying t = some (.struct fs)) (hf : ∀ f ∈ fs.toList, SpOK enc P f.type) : SpOK enc P t := by
  intro W sp n cs x h hs
  cases n with
  | zero => simp [DataW.trod] at h
  | succ n =>
    simp only [DataW.trod, ht] at h ⊢
    split at h
    · rename_i hc
      rw [if_pos hc]
      simp only [Option.map_eq_some_iff] at h ⊢
      obtain ⟨xs, hm, rfl⟩ := h
      exact ⟨xs, mapM_carry hm (fun f y hf' hy hv => hf f hf' W sp n _ y hv (fun p hp => hs p (List.mem_flatMap.2 ⟨y, hy, hp⟩))), rfl⟩
    · cases h
theorem sp_array {t e : TypeId} {m : Nat} (ht : P.underlying t = some (.array m e)) (hf : SpOK enc P e) : SpOK enc P t := by
  intro W sp n cs x h hs
  cases n with
  | zero => simp [DataW.trod] at h
  | succ n =>
    simp only [DataW.trod, ht] at h ⊢
    split at h
    · rename_i hc
      rw [if_pos hc]
      simp only [Option.map_eq_some_iff] at h ⊢
      obtain ⟨xs, hm, rfl⟩ := h
      exact ⟨xs, mapM_carry hm (fun f y hf' hy hv => hf W sp n _ y hv (fun p hp => hs p (List.mem_flatMap.2 ⟨y, hy, hp⟩))), rfl⟩
    · cases h
theorem sp_slice {t e : TypeId} (ht : P.underlying t = some (.slice e)) (hf : SpOK enc P e) (hc : 0 < P.cellsOf e) : SpOK enc P t := by
  intro W sp n cs x h hs
  cases n with
  | zero => simp [DataW.trod] at h
  | succ n =>
    rcases DataW.trod_slice ht h with ⟨rfl, rfl⟩ | ⟨a, len, cap, -, -, -, -, rfl, -⟩
    · simp [DataW.trod, ht]
    · simp only [DataW.trod, ht] at h ⊢
      split at h
      · rename_i hcond
        rw [if_pos hcond]
        simp only [Option.bind_eq_some_iff, Option.map_eq_some_iff, if_pos] at h ⊢
        obtain ⟨elems, he, rest, hr, rfl⟩ := h
        have hsub : ∀ y ∈ elems ++ rest, ∀ p ∈ y.2, sp p.block = true := fun y hy p hp => hs p (by
          simp only [List.mem_append]
          right
          exact List.mem_flatMap.2 ⟨y, hy, hp⟩)
        refine ⟨elems, mapM_carry he (fun i y _ hy hv => ?_), rest, ?_, rfl⟩
        · simp only [Option.bind_eq_some_iff] at hv ⊢
          obtain ⟨z, hz, hv⟩ := hv
          exact ⟨z, hz, hf W sp n _ y hv (hsub y (by simp [hy]))⟩
        · by_cases hsa : sp a.block = true
          · rw [if_pos hsa]
            refine mapM_carry hr (fun i y _ hy hv => ?_)
            simp only [Option.bind_eq_some_iff] at hv ⊢
            obtain ⟨z, hz, hv⟩ := hv
            exact ⟨z, hz, hf W sp n _ y hv (hsub y (by simp [hy]))⟩
          · rw [if_neg hsa]
            have h0 : elems.length + rest.length = 0 := by
              rcases Nat.eq_zero_or_pos (elems.length + rest.length) with h | h
              · exact h
              · exfalso
                apply hsa
                have hm : MemPlace.cell a.block (a.off + 0) ∈ MemPlace.row a ((elems.length + rest.length) * P.cellsOf e) := MemPlace.mem_row.2 ⟨0, Nat.mul_pos h hc, rfl⟩
                exact hs _ (by simp only [List.mem_append]; left; exact hm)
            have : rest = [] := List.length_eq_zero_iff.1 (by omega)
            rw [this]
      · cases h
/-- what was read reads the same in a world that has only grown -/
theorem reads_on {t : TypeId} (hS : SpOK enc P t) {W W' : World} {v : Value} {d : DataW H} {p : List MemPlace} (h : DataW.Trod enc P W 0 (fun _ => true) true t v d p) (hb : Below W.heap.size W W') (hlt : ∀ q ∈ p, q.block < W.heap.size) (sp : Nat → Bool) (hs : ∀ q ∈ p, sp q.block = true) :
    DataW.Trod enc P W' 0 sp true t v d p := by
  obtain ⟨n, hn⟩ := h
  exact ⟨n, DataW.trod_carry n t _ _ (hS W sp n _ _ hn hs) fun q hq => hb.same (hlt q hq)⟩
end
section
variable {H : Type} {enc : TypeId × Value → H}
theorem Try.sp_i : SpOK enc Try.prog 3 := sp_int Try.underlying3
theorem Try.sp_p : SpOK enc Try.prog 29 := sp_struct Try.underlying29 (fun f hf => by simp at hf; rcases hf with rfl | rfl <;> exact Try.sp_i)
theorem Try.sp_b : SpOK enc Try.prog 23 := sp_struct Try.underlying23 (fun f hf => by simp at hf; rcases hf with rfl | rfl | rfl | rfl <;> exact Try.sp_i)
theorem Try.sp_ps : SpOK enc Try.prog 24 := sp_slice Try.underlying24 Try.sp_p (by rw [cells_fr]; omega)
theorem Try.sp_4 : SpOK enc Try.prog 25 := sp_array Try.underlying25 Try.sp_i
theorem Try.sp_d : SpOK enc Try.prog 27 := sp_struct Try.underlying27 (fun f hf => by
  simp at hf
  rcases hf with rfl | rfl | rfl | rfl
  · exact Try.sp_i
  · exact Try.sp_b
  · exact Try.sp_ps
  · exact Try.sp_4)
theorem cells_d : Try.prog.cellsOf 27 = 10 := by kernel_rfl
theorem cells_4 : Try.prog.cellsOf 25 = 4 := by kernel_rfl
theorem cells_ps : Try.prog.cellsOf 24 = 1 := by kernel_rfl
theorem cells_is : Try.prog.cellsOf 38 = 1 := by kernel_rfl
theorem cells_pl : Try.prog.cellsOf 40 = 3 := by kernel_rfl
theorem cells_p4 : Try.prog.cellsOf 41 = 12 := by kernel_rfl
theorem Try.sp_ds : SpOK enc Try.prog 36 := sp_slice Try.underlying36 Try.sp_d (by rw [cells_d]; omega)
theorem Try.sp_is : SpOK enc Try.prog 38 := sp_slice Try.underlying38 Try.sp_i (by rw [cells_fi]; omega)
theorem Try.sp_pl : SpOK enc Try.prog 40 := sp_struct Try.underlying40 (fun f hf => by
  simp at hf
  rcases hf with rfl | rfl | rfl
  · exact Try.sp_i
  · exact Try.sp_i
  · exact Try.sp_is)
theorem Try.sp_p4 : SpOK enc Try.prog 41 := sp_array Try.underlying41 Try.sp_pl
theorem cells_get {w : World} {a : Addr} {n : Nat} {cs : List Value} (h : w.cells? 0 a n = some cs) : cs.length = n ∧ ∀ j, j < n → w.cell? (a.add j) = cs[j]? := by
  unfold World.cells? at h
  rw [if_pos (Nat.zero_le _)] at h
  refine ⟨by simpa using mapM_some_length h, fun j hj => mapM_some_get h j j (by simp [hj])⟩
theorem add_mul {a : Addr} {m i j : Nat} : (a.add (i * m)).add j = a.add (i * m + j) := Go.Deep.add_add a _ _
/-- the points of a slice -/
theorem open_pts {W : World} {n : Nat} {c : Value} {x : DataW H × List MemPlace} (h : DataW.trod enc Try.prog W 0 (fun _ => true) true n 24 [c] = some x) :
    ∃ (l : List (Int × Int)) (pa : Option Addr) (pc : Nat), c = .slice pa l.length pc ∧ Pts W W.heap.size pa l ∧ l.length ≤ maxLen := by
  rcases open_slice Try.underlying24 h with ⟨hc, -⟩ | ⟨a, len, cap, m, n', D, Pl, hc, -, hlc, hcm, hm, -, hel⟩
  · simp at hc
    exact ⟨[], none, 0, hc, fun h0 => absurd h0 (by simp), by simp⟩
  · simp at hc
    rw [cells_fr] at hel
    have hlm : len ≤ m := by rw [hm]; split <;> omega
    have hp : ∀ i, i < len → ∃ q : Int × Int, W.cell? (a.add (i * 2)) = some (.int .i64 q.1) ∧ W.cell? (a.add (i * 2 + 1)) = some (.int .i64 q.2) := fun i hi => by
      obtain ⟨cs', h1, h2⟩ := hel i (by omega)
      obtain ⟨hl, hg⟩ := cells_get h1
      match cs', hl with
      | [c0, c1], _ =>
        obtain ⟨y0, y1, n2, -, -, g0, g1⟩ := trod_struct2 Try.underlying29 h2
        rw [cells_fi] at g0 g1
        obtain ⟨z0, e0, -, -⟩ := DataW.trod_int Try.underlying3 g0
        obtain ⟨z1, e1, -, -⟩ := DataW.trod_int Try.underlying3 g1
        simp at e0 e1
        have k0 := hg 0 (by omega)
        have k1 := hg 1 (by omega)
        rw [add_mul] at k0 k1
        exact ⟨(z0, z1), by simpa [e0] using k0, by simpa [e1] using k1⟩
    obtain ⟨f, hf⟩ := choose_lt hp
    have hlen : ((List.range len).map f).length = len := by simp
    refine ⟨(List.range len).map f, some a, cap, by rw [hlen]; exact hc, fun h0 => ?_, by rw [hlen]; omega⟩
    rw [hlen] at h0
    obtain ⟨b, off, spot⟩ := a
    have hspot : spot = none := by
      have := World.cell?_spot (hf 0 h0).1
      simpa [Addr.add] using this
    subst hspot
    refine ⟨b, off, rfl, ?_, fun j hj => ?_⟩
    · have := World.block_lt_of_cell? W _ (hf 0 h0).1
      simpa [Addr.add] using this
    · have hj' : j < len := by simpa using hj
      obtain ⟨k0, k1⟩ := hf j hj'
      rw [Go.WideShapes.add_plain] at k0 k1
      simp only [List.getElem_map, List.getElem_range]
      exact ⟨k0, k1⟩
/-- the numbers of a slice -/
theorem open_nums {W : World} {n : Nat} {c : Value} {x : DataW H × List MemPlace} (h : DataW.trod enc Try.prog W 0 (fun _ => true) true n 38 [c] = some x) :
    ∃ (l : List Int) (pa : Option Addr) (pc : Nat), c = .slice pa l.length pc ∧ Ns W W.heap.size pa l ∧ l.length ≤ maxLen := by
  rcases open_slice Try.underlying38 h with ⟨hc, -⟩ | ⟨a, len, cap, m, n', D, Pl, hc, -, hlc, hcm, hm, -, hel⟩
  · simp at hc
    exact ⟨[], none, 0, hc, fun h0 => absurd h0 (by simp), by simp⟩
  · simp at hc
    rw [cells_fi] at hel
    have hlm : len ≤ m := by rw [hm]; split <;> omega
    have hp : ∀ i, i < len → ∃ q : Int, W.cell? (a.add (i * 1)) = some (.int .i64 q) := fun i hi => by
      obtain ⟨cs', h1, h2⟩ := hel i (by omega)
      obtain ⟨hl, hg⟩ := cells_get h1
      obtain ⟨z0, e0, -, -⟩ := DataW.trod_int Try.underlying3 h2
      have k0 := hg 0 (by omega)
      rw [add_mul] at k0
      exact ⟨z0, by simpa [e0] using k0⟩
    obtain ⟨f, hf⟩ := choose_lt hp
    have hlen : ((List.range len).map f).length = len := by simp
    refine ⟨(List.range len).map f, some a, cap, by rw [hlen]; exact hc, fun h0 => ?_, by rw [hlen]; omega⟩
    rw [hlen] at h0
    obtain ⟨b, off, spot⟩ := a
    have hspot : spot = none := by
      have := World.cell?_spot (hf 0 h0)
      simpa [Addr.add] using this
    subst hspot
    refine ⟨b, off, rfl, ?_, fun j hj => ?_⟩
    · have := World.block_lt_of_cell? W _ (hf 0 h0)
      simpa [Addr.add] using this
    · have hj' : j < len := by simpa using hj
      have k0 := hf j hj'
      rw [Go.WideShapes.add_plain, Nat.mul_one] at k0
      simp only [List.getElem_map, List.getElem_range]
      exact k0
instance drInh : Inhabited Dr := ⟨⟨0, 0, 0, 0, 0, [], 0, 0, 0, 0⟩⟩
/-- the cells of an operation -/
theorem open_dr {W : World} {n : Nat} {cs : List Value} {x : DataW H × List MemPlace} (h : DataW.trod enc Try.prog W 0 (fun _ => true) true n 27 cs = some x) :
    ∃ (q : Dr) (pa : Option Addr) (pc : Nat), cs = [.int .i64 q.k, .int .i64 q.x0, .int .i64 q.y0, .int .i64 q.x1, .int .i64 q.y1, .slice pa q.l.length pc, .int .i64 q.a, .int .i64 q.b, .int .i64 q.c, .int .i64 q.d] ∧ Pts W W.heap.size pa q.l ∧ q.l.length ≤ maxLen ∧ (-9223372036854775808 ≤ q.k ∧ q.k ≤ 9223372036854775807) := by
  obtain ⟨xs, n2, -, -, hl, hxl, hg⟩ := DataW.trod_struct Try.underlying27 h
  rw [cells_d] at hl
  match cs, hl with
  | [c0, c1, c2, c3, c4, c5, c6, c7, c8, c9], _ =>
    match xs, hxl with
    | [y0, y1, y2, y3], _ =>
      have h0 : DataW.trod enc Try.prog W 0 (fun _ => true) true n2 3 [c0] = some y0 := by simpa [cells_fi] using hg 0 _ rfl
      have h1 : DataW.trod enc Try.prog W 0 (fun _ => true) true n2 23 [c1, c2, c3, c4] = some y1 := by simpa [cells_bx] using hg 1 _ rfl
      have h2 : DataW.trod enc Try.prog W 0 (fun _ => true) true n2 24 [c5] = some y2 := by simpa [cells_ps] using hg 2 _ rfl
      have h3 : DataW.trod enc Try.prog W 0 (fun _ => true) true n2 25 [c6, c7, c8, c9] = some y3 := by simpa [cells_4] using hg 3 _ rfl
      obtain ⟨k, e0, -, wk⟩ := DataW.trod_int Try.underlying3 h0
      obtain ⟨zs, n3, -, -, -, hzl, gb⟩ := DataW.trod_struct Try.underlying23 h1
      match zs, hzl with
      | [w0, w1, w2, w3], _ =>
        have b0 : DataW.trod enc Try.prog W 0 (fun _ => true) true n3 3 [c1] = some w0 := by simpa [cells_fi] using gb 0 _ rfl
        have b1 : DataW.trod enc Try.prog W 0 (fun _ => true) true n3 3 [c2] = some w1 := by simpa [cells_fi] using gb 1 _ rfl
        have b2 : DataW.trod enc Try.prog W 0 (fun _ => true) true n3 3 [c3] = some w2 := by simpa [cells_fi] using gb 2 _ rfl
        have b3 : DataW.trod enc Try.prog W 0 (fun _ => true) true n3 3 [c4] = some w3 := by simpa [cells_fi] using gb 3 _ rfl
        obtain ⟨x0, f0, -, -⟩ := DataW.trod_int Try.underlying3 b0
        obtain ⟨x1, f1, -, -⟩ := DataW.trod_int Try.underlying3 b1
        obtain ⟨x2, f2, -, -⟩ := DataW.trod_int Try.underlying3 b2
        obtain ⟨x3, f3, -, -⟩ := DataW.trod_int Try.underlying3 b3
        obtain ⟨us, n4, -, -, -, hul, ga⟩ := DataW.trod_array Try.underlying25 h3
        match us, hul with
        | [u0, u1, u2, u3], _ =>
          have a0 : DataW.trod enc Try.prog W 0 (fun _ => true) true n4 3 [c6] = some u0 := by simpa [cells_fi] using ga 0 (by omega)
          have a1 : DataW.trod enc Try.prog W 0 (fun _ => true) true n4 3 [c7] = some u1 := by simpa [cells_fi] using ga 1 (by omega)
          have a2 : DataW.trod enc Try.prog W 0 (fun _ => true) true n4 3 [c8] = some u2 := by simpa [cells_fi] using ga 2 (by omega)
          have a3 : DataW.trod enc Try.prog W 0 (fun _ => true) true n4 3 [c9] = some u3 := by simpa [cells_fi] using ga 3 (by omega)
          obtain ⟨i0, g0, -, -⟩ := DataW.trod_int Try.underlying3 a0
          obtain ⟨i1, g1, -, -⟩ := DataW.trod_int Try.underlying3 a1
          obtain ⟨i2, g2, -, -⟩ := DataW.trod_int Try.underlying3 a2
          obtain ⟨i3, g3, -, -⟩ := DataW.trod_int Try.underlying3 a3
          obtain ⟨l, pa, pc, rfl, hp, hlm⟩ := open_pts h2
          simp at e0 f0 f1 f2 f3 g0 g1 g2 g3
          subst e0 f0 f1 f2 f3 g0 g1 g2 g3
          exact ⟨⟨k, x0, x1, x2, x3, l, i0, i1, i2, i3⟩, pa, pc, rfl, hp, hlm, bounds_i64 wk⟩
theorem open_draw {W : World} {r : Reach} {b0 : Nat} {v : Value} {d : DataW H} {p : List MemPlace} (hv : Value.okWide Try.prog W r b0 27 v) (h : DataW.Trod enc Try.prog W 0 (fun _ => true) true 27 v d p) :
    ∃ (q : Dr) (pa : Option Addr) (pc : Nat), v = dw q.k q.x0 q.y0 q.x1 q.y1 (.slice pa q.l.length pc) q.a q.b q.c q.d ∧ Pts W W.heap.size pa q.l ∧ q.l.length ≤ maxLen ∧ (-9223372036854775808 ≤ q.k ∧ q.k ≤ 9223372036854775807) := by
  obtain ⟨cs, rfl, hsz⟩ := okWide_struct Try.underlying27 hv
  obtain ⟨fuel, hf⟩ := h
  obtain ⟨q, pa, pc, hc, hp, hl, hk⟩ := open_dr hf
  refine ⟨q, pa, pc, ?_, hp, hl, hk⟩
  obtain ⟨l⟩ := cs
  have hc' : l = _ := hc
  unfold dw
  rw [hc']
theorem open_i {W : World} {r : Reach} {b0 : Nat} {v : Value} {d : DataW H} {p : List MemPlace} (hv : Value.okWide Try.prog W r b0 3 v) (h : DataW.Trod enc Try.prog W 0 (fun _ => true) true 3 v d p) : ∃ a : Int, v = .int .i64 a ∧ (Lit.int .i64 a).wf = true := by
  obtain ⟨a, rfl⟩ := okWide_int Try.underlying3 hv
  obtain ⟨fuel, hf⟩ := h
  obtain ⟨a', ha, -, wa⟩ := DataW.trod_int Try.underlying3 hf
  simp [Value.cells] at ha
  subst ha
  exact ⟨a, rfl, wa⟩
instance drAdInh : Inhabited (Dr × Option Addr × Nat) := ⟨(default, none, 0)⟩
/-- the operations of a slice -/
theorem open_draws {W : World} {r : Reach} {b0 : Nat} {v : Value} {d : DataW H} {p : List MemPlace} (hv : Value.okWide Try.prog W r b0 36 v) (h : DataW.Trod enc Try.prog W 0 (fun _ => true) true 36 v d p) :
    ∃ (D : List Dr) (da : Option Addr) (dc : Nat), v = .slice da D.length dc ∧ Drs W W.heap.size da D ∧ D.length ≤ maxLen ∧ (∀ q ∈ D, q.l.length ≤ maxLen ∧ (-9223372036854775808 ≤ q.k ∧ q.k ≤ 9223372036854775807)) ∧ (da = none → D.length = 0 ∧ dc = 0) := by
  obtain ⟨a0, len0, cap0, rfl⟩ := okWide_slice Try.underlying36 hv
  obtain ⟨fuel, hf⟩ := h
  rcases open_slice Try.underlying36 hf with ⟨hc, -⟩ | ⟨a, len, cap, m, n', Dd, Pl, hc, -, hlc, hcm, hm, -, hel⟩
  · simp [Value.cells] at hc
    obtain ⟨rfl, rfl, rfl⟩ := hc
    exact ⟨[], none, 0, rfl, fun h0 => absurd h0 (by simp), by simp, fun q hq => by simp at hq, fun _ => ⟨rfl, rfl⟩⟩
  · simp [Value.cells] at hc
    obtain ⟨rfl, rfl, rfl⟩ := hc
    rw [cells_d] at hel
    have hlm : len0 ≤ m := by rw [hm]; split <;> omega
    have hp : ∀ i, i < len0 → ∃ q : Dr × Option Addr × Nat, (∀ j, j < 10 → W.cell? (a.add (i * 10 + j)) = [.int .i64 q.1.k, .int .i64 q.1.x0, .int .i64 q.1.y0, .int .i64 q.1.x1, .int .i64 q.1.y1, .slice q.2.1 q.1.l.length q.2.2, .int .i64 q.1.a, .int .i64 q.1.b, .int .i64 q.1.c, .int .i64 q.1.d][j]?) ∧ Pts W W.heap.size q.2.1 q.1.l ∧ q.1.l.length ≤ maxLen ∧ (-9223372036854775808 ≤ q.1.k ∧ q.1.k ≤ 9223372036854775807) := fun i hi => by
      obtain ⟨cs', h1, h2⟩ := hel i (by omega)
      obtain ⟨hl, hg⟩ := cells_get h1
      obtain ⟨q, pa, pc, rfl, g1, g2, g3⟩ := open_dr h2
      refine ⟨(q, pa, pc), fun j hj => ?_, g1, g2, g3⟩
      have := hg j hj
      rw [add_mul] at this
      exact this
    obtain ⟨f, hf'⟩ := choose_lt hp
    have hlen : ((List.range len0).map fun i => (f i).1).length = len0 := by simp
    refine ⟨(List.range len0).map fun i => (f i).1, some a, cap0, by rw [hlen], fun h0 => ?_, by rw [hlen]; omega, fun q hq => ?_, fun h => by cases h⟩
    · rw [hlen] at h0
      obtain ⟨b, off, spot⟩ := a
      have h00 := (hf' 0 h0).1 0 (by omega)
      have hspot : spot = none := by
        have := World.cell?_spot (v := .int .i64 (f 0).1.k) (by simpa using h00)
        simpa [Addr.add] using this
      subst hspot
      refine ⟨b, off, rfl, ?_, fun j hj => ?_⟩
      · have := World.block_lt_of_cell? W (a := (⟨b, off, none⟩ : Addr).add (0 * 10 + 0)) (u := .int .i64 (f 0).1.k) (by simpa using h00)
        simpa [Addr.add] using this
      · have hj' : j < len0 := by simpa using hj
        obtain ⟨k0, k1, -⟩ := hf' j hj'
        simp only [List.getElem_map, List.getElem_range]
        refine ⟨(f j).2.1, (f j).2.2, ?_, k1⟩
        have kk : ∀ x z, x < 10 → [Value.int .i64 (f j).1.k, .int .i64 (f j).1.x0, .int .i64 (f j).1.y0, .int .i64 (f j).1.x1, .int .i64 (f j).1.y1, .slice (f j).2.1 (f j).1.l.length (f j).2.2, .int .i64 (f j).1.a, .int .i64 (f j).1.b, .int .i64 (f j).1.c, .int .i64 (f j).1.d][x]? = some z → W.cell? ⟨b, off + j * 10 + x, none⟩ = some z := fun x z hx hz => by
          have := k0 x hx
          rw [Go.WideShapes.add_plain, ← Nat.add_assoc] at this
          exact this.trans hz
        exact ⟨kk 0 _ (by omega) rfl, kk 1 _ (by omega) rfl, kk 2 _ (by omega) rfl, kk 3 _ (by omega) rfl, kk 4 _ (by omega) rfl, kk 5 _ (by omega) rfl, kk 6 _ (by omega) rfl, kk 7 _ (by omega) rfl, kk 8 _ (by omega) rfl, kk 9 _ (by omega) rfl⟩
    · rw [List.mem_map] at hq
      obtain ⟨i, hi, rfl⟩ := hq
      have := hf' i (List.mem_range.1 hi)
      exact ⟨this.2.2.1, this.2.2.2⟩
end
end Go.Proofs.Ytjclioakdmilmaa
