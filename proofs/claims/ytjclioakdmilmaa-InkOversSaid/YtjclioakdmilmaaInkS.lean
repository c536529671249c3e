/- Lists of operations, appended. -/
import Derived.Test.YtjclioakdmilmaaInkR
import Derived.Test.YtjclioakdmilmaaInkPlainG
import Derived.Laws.AppendOwn
import Derived.Laws.OwnMore
import Derived.Deep.Slices
namespace Go.Proofs.Ytjclioakdmilmaa
open Go.RowKit
open Num Ink
set_option linter.unusedVariables false
theorem Try.infoDw : (Try.prog.info? 27).map (fun i => (i.zero, i.size, i.bytes)) = some (some (.agg #[.int .i64 0, .int .i64 0, .int .i64 0, .int .i64 0, .int .i64 0, .slice none 0 0, .int .i64 0, .int .i64 0, .int .i64 0, .int .i64 0]), 10, 96) := by kernel_rfl
/-- the cells of operations -/
def drc (p : Dr × Option Addr × Nat) : List Value := [.int .i64 p.1.k, .int .i64 p.1.x0, .int .i64 p.1.y0, .int .i64 p.1.x1, .int .i64 p.1.y1, .slice p.2.1 p.1.l.length p.2.2, .int .i64 p.1.a, .int .i64 p.1.b, .int .i64 p.1.c, .int .i64 p.1.d]
def drcs (L : List (Dr × Option Addr × Nat)) : List Value := L.flatMap drc
theorem drcs_append (L M : List (Dr × Option Addr × Nat)) : drcs (L ++ M) = drcs L ++ drcs M := List.flatMap_append
theorem drcs_len (L : List (Dr × Option Addr × Nat)) : (drcs L).length = L.length * 10 := by
  induction L with
  | nil => rfl
  | cons p L ih =>
    show (drc p ++ drcs L).length = _
    rw [List.length_append, ih, List.length_cons]
    show 10 + L.length * 10 = _
    omega
theorem drcs_get (L : List (Dr × Option Addr × Nat)) (j : Nat) (hj : j < L.length) (f : Nat) (hf : f < 10) : (drcs L)[j * 10 + f]? = (drc L[j])[f]? := by
  induction L generalizing j with
  | nil => simp at hj
  | cons p L ih =>
    show (drc p ++ drcs L)[j * 10 + f]? = _
    cases j with
    | zero =>
      rw [List.getElem?_append_left (by show 0 * 10 + f < 10; omega)]
      simp
    | succ j =>
      rw [List.getElem?_append_right (by show 10 ≤ _; omega)]
      have : (j + 1) * 10 + f - (drc p).length = j * 10 + f := by show (j + 1) * 10 + f - 10 = _; omega
      rw [this]
      have := ih j (by simpa using hj)
      simpa using this
theorem drcs_one (L : List (Dr × Option Addr × Nat)) : ∀ u ∈ drcs L, u.oneCell' = true := by
  intro u hu
  obtain ⟨p, -, hp⟩ := List.mem_flatMap.1 hu
  simp [drc] at hp
  rcases hp with rfl | rfl | rfl | rfl | rfl | rfl | rfl | rfl | rfl | rfl <;> rfl
instance drAdInh' : Inhabited (Option Addr × Nat) := ⟨(none, 0)⟩
theorem drs_list {w : World} {B : Nat} {a : Option Addr} {D : List Dr} (h : Drs w B a D) : ∃ L : List (Dr × Option Addr × Nat), L.map (·.1) = D ∧ (∀ p ∈ L, Pts w B p.2.1 p.1.l) ∧ ∀ ad : Addr, a = some ad → ∀ i z, (drcs L)[i]? = some z → w.cell? (ad.add i) = some z := by
  rcases Nat.eq_zero_or_pos D.length with h0 | h0
  · have : D = [] := List.length_eq_zero_iff.1 h0
    subst this
    exact ⟨[], rfl, fun p hp => by simp at hp, fun ad _ i z hz => by simp [drcs] at hz⟩
  · obtain ⟨b, off, rfl, hb, hc⟩ := h h0
    have hp : ∀ j, j < D.length → ∃ q : Option Addr × Nat, ∀ hj : j < D.length, DwAt w b (off + j * 10) D[j] (.slice q.1 D[j].l.length q.2) ∧ Pts w B q.1 D[j].l := fun j hj => by
      obtain ⟨pa, pc, h1, h2⟩ := hc j hj
      exact ⟨(pa, pc), fun _ => ⟨h1, h2⟩⟩
    obtain ⟨f, hf⟩ := Go.Deep.choose_lt hp
    have hlen : ((List.range D.length).attach.map fun j => (D[j.1]'(List.mem_range.1 j.2), f j.1)).length = D.length := by simp
    refine ⟨(List.range D.length).attach.map fun j => (D[j.1]'(List.mem_range.1 j.2), f j.1), ?_, fun p hp => ?_, fun ad had i z hz => ?_⟩
    · apply List.ext_getElem
      · simp
      · intro i h1 h2; simp
    · obtain ⟨j, -, rfl⟩ := List.mem_map.1 hp
      exact (hf j.1 (List.mem_range.1 j.2) (List.mem_range.1 j.2)).2
    · injection had with had
      subst had
      have hi : i < D.length * 10 := by
        have := (List.getElem?_eq_some_iff.1 hz).1
        rw [drcs_len, hlen] at this
        exact this
      have hj : i / 10 < D.length := by omega
      have e : i = (i / 10) * 10 + i % 10 := by omega
      rw [e, drcs_get _ _ (by rw [hlen]; exact hj) _ (by omega)] at hz
      rw [Go.WideShapes.add_plain]
      obtain ⟨h1, h2, h3, h4, h5, h6, h7, h8, h9, h10⟩ := (hf (i / 10) hj hj).1
      have e2 : off + i = off + (i / 10) * 10 + i % 10 := by omega
      rw [e2]
      simp only [List.getElem_map, List.getElem_attach, List.getElem_range] at hz
      have hr : i % 10 < 10 := by omega
      generalize i / 10 = q at *
      generalize i % 10 = r at *
      obtain rfl | rfl | rfl | rfl | rfl | rfl | rfl | rfl | rfl | rfl : r = 0 ∨ r = 1 ∨ r = 2 ∨ r = 3 ∨ r = 4 ∨ r = 5 ∨ r = 6 ∨ r = 7 ∨ r = 8 ∨ r = 9 := by omega
      all_goals (rw [← hz]; assumption)
theorem own_drs {w : World} {base B : Nat} {a : Option Addr} {cap : Nat} {L : List (Dr × Option Addr × Nat)} (h : w.ownsRow base 27 10 (.slice a L.length cap) L.length (drcs L)) (hp : ∀ p ∈ L, Pts w B p.2.1 p.1.l) (hB : w.heap.size ≤ B) : Drs w B a (L.map (·.1)) := fun hn => by
  rw [List.length_map] at hn
  obtain ⟨g, c, e, hb, hg⟩ := own_some h hn
  simp at e
  obtain ⟨rfl, rfl⟩ := e
  refine ⟨g, 0, rfl, by omega, fun j hj => ?_⟩
  have hj' : j < L.length := by simpa using hj
  refine ⟨L[j].2.1, L[j].2.2, ?_, ?_⟩
  · have kk : ∀ f z, f < 10 → (drc L[j])[f]? = some z → w.cell? ⟨g, 0 + j * 10 + f, none⟩ = some z := fun f z hf hz => by
      rw [Nat.zero_add, h.cellAt (j * 10 + f) (by omega), drcs_get L j hj' f hf]
      exact hz
    simp only [List.getElem_map]
    exact ⟨kk 0 _ (by omega) rfl, kk 1 _ (by omega) rfl, kk 2 _ (by omega) rfl, kk 3 _ (by omega) rfl, kk 4 _ (by omega) rfl, kk 5 _ (by omega) rfl, kk 6 _ (by omega) rfl, kk 7 _ (by omega) rfl, kk 8 _ (by omega) rfl, kk 9 _ (by omega) rfl⟩
  · simp only [List.getElem_map]
    exact hp _ (List.getElem_mem hj')
theorem wpList_append_src {P : Program} {w : World} {ops : Array Oper} {rest : List Oper} {o : Oper} {a : Act} {Q : Exit → Act → World → Prop} (hgd : o.guard = none) (s x : Operand) (t : TypeId)
    (ho : o.op = .call { callee := .builtin .append, args := #[s, x], argTypes := #[t, t] })
    (base : Nat) (e : TypeId) (i : TypeInfo) (z : Value) (size bytes : Nat) (ht : P.underlying t = some (.slice e)) (hi : P.info? e = some i) (hz : i.zero = some z)
    (hsize : i.size = size) (hby : i.bytes = bytes) (hzs : z.cells.size = size) (hsz : 0 < size)
    (v : Value) (n : Nat) (xs : List Value) (hs : a.eval s = v) (hown : w.ownsRow base e size v n xs)
    (oa : Option Addr) (m c : Nat) (news : List Value) (hx : a.eval x = .slice oa m c) (hoa : oa = none → m = 0 ∧ c = 0) (hl : news.length = m * size) (hnews : ∀ ad, oa = some ad → ∀ j u, news[j]? = some u → w.cell? (ad.add j) = some u) (h1 : ∀ u ∈ news, u.oneCell' = true)
    (h63 : n + m ≤ maxLen) (hbytes : (n + m) * bytes ≤ 140737488355328) (hbase : base ≤ w.heap.size)
    (h : ∀ v' w', w'.ownsRow base e size v' (n + m) (xs ++ news) → w.grownBy w' v.ownBlock → wpList P ops Q rest (a.put o.dst v') w') :
    wpList P ops Q (o :: rest) a w := by
  cases oa with
  | some ad => exact wpList_append_own _ hgd s x t ho base e i z size bytes ht hi hz hsize hby hzs hsz v n xs hs hown ad m c news hx hl (hnews ad rfl) h1 h63 hbytes hbase (fun v' w' k1 k2 _ => h v' w' k1 k2)
  | none =>
    obtain ⟨rfl, rfl⟩ := hoa rfl
    have hn : news = [] := List.length_eq_zero_iff.1 (by rw [hl, Nat.zero_mul])
    subst hn
    refine wpList_plain hgd fun K hK => ?_
    have hr := run_append_owned_none (P := P) w base t o.type e i size ht hi v n xs hown
    unfold Oper.wp execOp
    simp only [ho, resolve, invoke, builtin, Sem.run_bind, Sem.run_pure, Result.andThen_ok, List.map_toArray, List.map_cons, List.map_nil, hs, hx, hr]
    exact hK _ _ (h v w (by simpa using hown) ⟨rfl, rfl, rfl, Nat.le_refl _, fun _ _ _ => rfl⟩)
theorem plR_congr {ws hs ws' hs' : Nat → Int} {vs vs' : Nat → List Int} {E E' : Int} {w u : World} {e : Ending} (h : PlR ws hs vs E w e u) (h1 : ∀ i, i < 4 → ws i = ws' i) (h2 : ∀ i, i < 4 → hs i = hs' i) (h3 : ∀ i, i < 4 → vs i = vs' i) (h4 : E = E') : PlR ws' hs' vs' E' w e u := by
  obtain ⟨ad, cp, rfl, hN, hf, hb⟩ := h
  refine ⟨ad, cp, ?_, fun i hi => by rw [← h3 i hi]; exact hN i hi, hf, hb⟩
  unfold pl4
  dsimp only
  rw [h1 0 (by omega), h1 1 (by omega), h1 2 (by omega), h1 3 (by omega), h2 0 (by omega), h2 1 (by omega), h2 2 (by omega), h2 3 (by omega), h3 0 (by omega), h3 1 (by omega), h3 2 (by omega), h3 3 (by omega), h4]
end Go.Proofs.Ytjclioakdmilmaa
