/- Plain words for layer ink: painting over what was painted. No program in sight. -/
import Derived.Test.YtjclioakdmilmaaInkPlainF
set_option linter.unusedVariables false
namespace Go.Proofs.Ytjclioakdmilmaa.Ink
open Num
theorem putC_pt (w h : Int) (ik : Nat → Int) (p : Int × Int) {V V' : Pic} {i j : Nat} (e : V i j = V' i j) : putC w h ik p V i j = putC w h ik p V' i j := by
  unfold putC; rw [e]
theorem putL_pt (w h : Int) (ik : Nat → Int) (l : List (Int × Int)) {V V' : Pic} {i j : Nat} (e : V i j = V' i j) : putL w h ik l V i j = putL w h ik l V' i j := by
  induction l generalizing V V' with
  | nil => exact e
  | cons p l ih => exact ih (putC_pt w h ik p e)
theorem filP_pt (w : Nat) (x0 y0 x1 y1 : Int) (ik : Nat → Int) {V V' : Pic} {i j : Nat} (e : V i j = V' i j) : filP w x0 y0 x1 y1 ik V i j = filP w x0 y0 x1 y1 ik V' i j := by
  unfold filP; rw [e]
theorem drw_pt (w : Nat) (h : Int) (x : Dr) {V V' : Pic} {i j : Nat} (e : V i j = V' i j) : drw w h x V i j = drw w h x V' i j := by
  unfold drw
  split
  · exact putL_pt _ _ _ _ e
  · exact filP_pt _ _ _ _ _ _ e
theorem drwL_pt (w : Nat) (h : Int) (D : List Dr) {V V' : Pic} {i j : Nat} (e : V i j = V' i j) : drwL w h D V i j = drwL w h D V' i j := by
  induction D generalizing V V' with
  | nil => exact e
  | cons x D ih => exact ih (drw_pt w h x e)
theorem drwL_append (w : Nat) (h : Int) (a b : List Dr) (V : Pic) : drwL w h (a ++ b) V = drwL w h b (drwL w h a V) := List.foldl_append
/-- a number of ink stays one -/
def okP (V : Pic) (i j : Nat) : Prop := okI (V i j) = true
theorem ink_ok {x : Dr} (h : ok4 x.a x.b x.c x.d = true) (i : Nat) : okI (x.ink i) = true := by
  unfold ok4 at h
  simp only [Bool.and_eq_true] at h
  unfold Dr.ink
  split
  · exact h.1.1
  · split
    · exact h.1.2
    · split
      · exact h.2.1
      · exact h.2.2
theorem putL_ok (w h : Int) (ik : Nat → Int) (hik : ∀ i, okI (ik i) = true) (l : List (Int × Int)) {V : Pic} {i j : Nat} (e : okP V i j) : okP (putL w h ik l V) i j := by
  induction l generalizing V with
  | nil => exact e
  | cons p l ih =>
    refine ih ?_
    show okI (putC w h ik p V i j) = true
    unfold putC
    split
    · exact hik i
    · exact e
theorem drw_ok (w : Nat) (h : Int) {x : Dr} (hx : x.err = 0) {V : Pic} {i j : Nat} (e : okP V i j) : okP (drw w h x V) i j := by
  have hk := fun i => ink_ok (ck_ok hx).2.2.2.1 i
  unfold drw
  split
  · exact putL_ok _ _ _ hk _ e
  · unfold okP filP
    split
    · exact hk i
    · exact e
theorem drwL_ok (w : Nat) (h : Int) {D : List Dr} (hD : ∀ x ∈ D, x.err = 0) {V : Pic} {i j : Nat} (e : okP V i j) : okP (drwL w h D V) i j := by
  induction D generalizing V with
  | nil => exact e
  | cons x D ih => exact ih (fun y hy => hD y (by simp [hy])) (drw_ok w h (hD x (by simp)) e)
theorem pic_map {n : Nat} {V : Pic} {vs : Nat → List Int} {i j : Nat} (h : vs i = (List.range n).map (V i)) (hj : j < n) : pic vs i j = V i j := by
  unfold pic
  rw [h]
  simp [hj]
theorem firstE_append (a b : List Dr) : firstE (a ++ b) = if firstE a = 0 then firstE b else firstE a := by
  induction a with
  | nil => simp [firstE]
  | cons x a ih =>
    show (if x.err = 0 then firstE (a ++ b) else x.err) = _
    by_cases e : x.err = 0
    · rw [if_pos e, ih]
      show _ = if (if x.err = 0 then firstE a else x.err) = 0 then firstE b else (if x.err = 0 then firstE a else x.err)
      rw [if_pos e]
    · rw [if_neg e]
      show _ = if (if x.err = 0 then firstE a else x.err) = 0 then firstE b else (if x.err = 0 then firstE a else x.err)
      rw [if_neg e, if_neg e]
theorem ov_zero {ws hs : Nat → Int} {vs : Nat → List Int} {D : List Dr} (h : ovE ws hs vs D = 0) : errP ws hs vs = 0 ∧ D.length ≤ 1024 ∧ firstE D = 0 := by
  unfold ovE at h
  by_cases e : errP ws hs vs = 0
  · rw [if_neg (by simp [e])] at h
    by_cases e2 : 1024 < D.length
    · rw [if_pos e2] at h; omega
    · rw [if_neg e2] at h; exact ⟨e, by omega, h⟩
  · rw [if_pos e] at h; exact absurd h e
theorem ov_of {ws hs : Nat → Int} {vs : Nat → List Int} {D : List Dr} (h1 : errP ws hs vs = 0) (h2 : D.length ≤ 1024) : ovE ws hs vs D = firstE D := by
  unfold ovE; rw [if_neg (by simp [h1]), if_neg (by omega)]
theorem errP_mk {ws hs : Nat → Int} {vs : Nat → List Int} (hW : 1 ≤ ws 0 ∧ ws 0 ≤ 256) (hH : 1 ≤ hs 0 ∧ hs 0 ≤ 256) (h : ∀ i, i < 4 → ws i = ws 0 ∧ hs i = hs 0 ∧ ws i * hs i = ((vs i).length : Int) ∧ okL (vs i) = true) : errP ws hs vs = 0 := by
  unfold errP
  rw [if_neg, if_neg, if_neg]
  · rw [all4_true (fun i hi => (h i hi).2.2.2)]; simp
  · rw [(sideB_iff _).2 hW, (sideB_iff _).2 hH]; simp
  · rw [all4_true (fun i hi => by
      obtain ⟨h1, h2, h3, -⟩ := h i hi
      unfold armP; simp [h1, h2]
      rw [← h1, ← h2]; exact h3)]
    simp
/-- what Over returns is again four good plates -/
theorem ov_good {ws hs : Nat → Int} {vs : Nat → List Int} {D : List Dr} (h : ovE ws hs vs D = 0) : errP (ovW ws hs vs D) (ovH ws hs vs D) (ovV ws hs vs D) = 0 := by
  obtain ⟨h1, h2, h3⟩ := ov_zero h
  obtain ⟨g1, g2, g3⟩ := errP_ok h1
  have eW : ovW ws hs vs D = fun _ => ws 0 := by unfold ovW; rw [if_pos h]
  have eH : ovH ws hs vs D = fun _ => hs 0 := by unfold ovH; rw [if_pos h]
  have eV : ovV ws hs vs D = fun i => (List.range (vs 0).length).map (drwL (ws 0).toNat (hs 0) D (pic vs) i) := by unfold ovV; simp only [if_pos h]
  rw [eW, eH, eV]
  refine errP_mk g1 g2 fun i hi => ⟨rfl, rfl, ?_, ?_⟩
  · rw [List.length_map, List.length_range]; exact (g3 0 (by omega)).2.2.2.1
  · refine okL_true fun k hk => ?_
    have hk' : k < (vs 0).length := by simpa using hk
    simp only [List.getElem_map, List.getElem_range]
    refine drwL_ok _ _ (fun x hx => ?_) ?_
    · obtain ⟨m, hm, rfl⟩ := List.getElem_of_mem hx
      exact firstE_ok h3 m hm
    · obtain ⟨-, -, g4, -, g5⟩ := g3 i hi
      unfold okP pic
      have hk2 : k < (vs i).length := by omega
      have : (vs i).getD k 0 = (vs i)[k] := by simp [hk2]
      rw [this]
      unfold okL at g5
      rw [List.all_eq_true] at g5
      exact g5 _ (List.getElem_mem hk2)
/-- Over twice is Over with both lists -/
theorem ov_twice {ws hs : Nat → Int} {vs : Nat → List Int} {a b : List Dr} (h : ovE ws hs vs a = 0) (hl : (a ++ b).length ≤ 1024) (hb : firstE b = 0) :
    ovE ws hs vs (a ++ b) = 0 ∧ ovE (ovW ws hs vs a) (ovH ws hs vs a) (ovV ws hs vs a) b = 0 ∧ ovW (ovW ws hs vs a) (ovH ws hs vs a) (ovV ws hs vs a) b = ovW ws hs vs (a ++ b) ∧ ovH (ovW ws hs vs a) (ovH ws hs vs a) (ovV ws hs vs a) b = ovH ws hs vs (a ++ b) ∧
      ∀ i, ovV (ovW ws hs vs a) (ovH ws hs vs a) (ovV ws hs vs a) b i = ovV ws hs vs (a ++ b) i := by
  obtain ⟨h1, h2, h3⟩ := ov_zero h
  rw [List.length_append] at hl
  have k1 : ovE ws hs vs (a ++ b) = 0 := by rw [ov_of h1 (by rw [List.length_append]; exact hl), firstE_append, if_pos h3, hb]
  have k2 : ovE (ovW ws hs vs a) (ovH ws hs vs a) (ovV ws hs vs a) b = 0 := by rw [ov_of (ov_good h) (by omega), hb]
  have eW : ovW ws hs vs a = fun _ => ws 0 := by unfold ovW; rw [if_pos h]
  have eH : ovH ws hs vs a = fun _ => hs 0 := by unfold ovH; rw [if_pos h]
  have eV : ovV ws hs vs a = fun i => (List.range (vs 0).length).map (drwL (ws 0).toNat (hs 0) a (pic vs) i) := by unfold ovV; simp only [if_pos h]
  refine ⟨k1, k2, ?_, ?_, fun i => ?_⟩
  · have e1 : ovW (ovW ws hs vs a) (ovH ws hs vs a) (ovV ws hs vs a) b = fun _ => ovW ws hs vs a 0 := by unfold ovW at k2 ⊢; funext i; rw [if_pos k2]
    have e2 : ovW ws hs vs (a ++ b) = fun _ => ws 0 := by unfold ovW; rw [if_pos k1]
    rw [e1, e2, eW]
  · have e1 : ovH (ovW ws hs vs a) (ovH ws hs vs a) (ovV ws hs vs a) b = fun _ => ovH ws hs vs a 0 := by unfold ovH at k2 ⊢; funext i; rw [if_pos k2]
    have e2 : ovH ws hs vs (a ++ b) = fun _ => hs 0 := by unfold ovH; rw [if_pos k1]
    rw [e1, e2, eH]
  · have e2 : ovV ws hs vs (a ++ b) i = (List.range (vs 0).length).map (drwL (ws 0).toNat (hs 0) (a ++ b) (pic vs) i) := by unfold ovV; rw [if_pos k1]
    rw [e2]
    have hp : ∀ j, j < (vs 0).length → pic (ovV ws hs vs a) i j = drwL (ws 0).toNat (hs 0) a (pic vs) i j := fun j hj => pic_map (by rw [eV]) hj
    generalize ovW ws hs vs a = W1 at *
    generalize ovH ws hs vs a = H1 at *
    have hl0 : (ovV ws hs vs a 0).length = (vs 0).length := by rw [eV]; simp
    generalize ovV ws hs vs a = V1 at *
    unfold ovV
    rw [if_pos k2, eW, eH, hl0]
    apply List.map_congr_left
    intro j hj
    rw [drwL_append]
    exact drwL_pt _ _ _ (hp j (List.mem_range.1 hj))
/-- Over with no operation changes nothing -/
theorem ov_nil {ws hs : Nat → Int} {vs : Nat → List Int} (h : errP ws hs vs = 0) : ovE ws hs vs [] = 0 ∧ (∀ i, i < 4 → ovW ws hs vs [] i = ws i) ∧ (∀ i, i < 4 → ovH ws hs vs [] i = hs i) ∧ ∀ i, i < 4 → ovV ws hs vs [] i = vs i := by
  have k : ovE ws hs vs [] = 0 := by rw [ov_of h (by simp)]; rfl
  obtain ⟨g1, g2, g3⟩ := errP_ok h
  refine ⟨k, fun i hi => ?_, fun i hi => ?_, fun i hi => ?_⟩
  · unfold ovW; rw [if_pos k]; exact (g3 i hi).1.symm
  · unfold ovH; rw [if_pos k]; exact (g3 i hi).2.1.symm
  · unfold ovV; rw [if_pos k]
    have hl := (g3 i hi).2.2.1
    apply List.ext_getElem
    · simp [hl]
    · intro j h1 h2
      simp [drwL, pic, h2]
theorem blk_good {w h : Int} {n : Nat} (hw : 1 ≤ w ∧ w ≤ 256) (hh : 1 ≤ h ∧ h ≤ 256) (hn : (n : Int) = w * h) : errP (fun _ => w) (fun _ => h) (blk n) = 0 :=
  errP_mk hw hh fun i hi => ⟨rfl, rfl, by unfold blk; rw [List.length_replicate]; exact hn.symm, by
    unfold okL blk
    rw [List.all_eq_true]
    intro x hx
    rw [List.eq_of_mem_replicate hx]; rfl⟩
/-- the errors of InkOver -/
theorem io_err {w h : Int} {n : Nat} {a b : List Dr} (hn : (sideB w && sideB h) = true → (n : Int) = w * h) (ha : a.length ≤ 30) (hb : b.length ≤ 30) : pnE w h n a = 0 ∨ pnE w h n (a ++ b) = pnE w h n a := by
  unfold pnE
  cases hs : (sideB w && sideB h)
  · right; rw [if_pos rfl, if_pos rfl]
  · rw [if_neg (by simp), if_neg (by simp)]
    rw [Bool.and_eq_true, sideB_iff, sideB_iff] at hs
    have hg := blk_good hs.1 hs.2 (hn (by rw [Bool.and_eq_true, sideB_iff, sideB_iff]; exact hs))
    rw [ov_of hg (by omega), ov_of hg (by rw [List.length_append]; omega), firstE_append]
    by_cases e : firstE a = 0
    · exact .inl e
    · exact .inr (by rw [if_neg e])
/-- the plates of InkOver -/
theorem io_good {w h : Int} {n : Nat} {a b : List Dr} (h1 : pnE w h n (a ++ b) = 0) (h2 : pnE w h n a = 0) :
    ovE (pnW w h n a) (pnH w h n a) (pnV w h n a) b = 0 ∧ ovW (pnW w h n a) (pnH w h n a) (pnV w h n a) b = pnW w h n (a ++ b) ∧ ovH (pnW w h n a) (pnH w h n a) (pnV w h n a) b = pnH w h n (a ++ b) ∧ (∀ i, ovV (pnW w h n a) (pnH w h n a) (pnV w h n a) b i = pnV w h n (a ++ b) i) ∧
      errP (pnW w h n a) (pnH w h n a) (pnV w h n a) = 0 ∧ errP (pnW w h n (a ++ b)) (pnH w h n (a ++ b)) (pnV w h n (a ++ b)) = 0 := by
  unfold pnE at h1 h2
  unfold pnW pnH pnV
  cases hs : (sideB w && sideB h)
  · rw [hs, if_pos rfl] at h1; omega
  · rw [hs, if_neg (by simp)] at h1 h2
    simp only [Bool.true_eq_false, if_false]
    obtain ⟨g1, g2, g3⟩ := ov_zero h1
    obtain ⟨-, -, g5⟩ := ov_zero h2
    rw [firstE_append, if_pos g5] at g3
    obtain ⟨k1, k2, k3, k4, k5⟩ := ov_twice h2 g2 g3
    exact ⟨k2, k3, k4, k5, ov_good h2, ov_good h1⟩
end Go.Proofs.Ytjclioakdmilmaa.Ink
