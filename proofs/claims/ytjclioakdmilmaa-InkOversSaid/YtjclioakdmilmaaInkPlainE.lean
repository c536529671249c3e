/- Plain words for layer ink: what Over returns. No program in sight. -/
import Derived.Test.YtjclioakdmilmaaInkPlainD
set_option linter.unusedVariables false
namespace Go.Proofs.Ytjclioakdmilmaa.Ink
open Num
/-- the error of the first bad operation -/
def firstE : List Dr → Int
  | [] => 0
  | x :: l => if x.err = 0 then firstE l else x.err
theorem firstE_good {l : List Dr} (h : ∀ k (hk : k < l.length), l[k].err = 0) : firstE l = 0 := by
  induction l with
  | nil => rfl
  | cons x l ih =>
    unfold firstE
    rw [if_pos (show x.err = 0 from h 0 (by simp))]
    exact ih fun k hk => h (k + 1) (by simpa using hk)
theorem firstE_bad {l : List Dr} {k : Nat} (hk : k < l.length) (h : ∀ m (hm : m < l.length), m < k → l[m].err = 0) (hb : l[k].err ≠ 0) : firstE l = l[k].err := by
  induction l generalizing k with
  | nil => simp at hk
  | cons x l ih =>
    unfold firstE
    cases k with
    | zero => rw [if_neg (show ¬ x.err = 0 from hb)]; rfl
    | succ k =>
      rw [if_pos (show x.err = 0 from h 0 (by simp) (by omega))]
      exact ih (by simpa using hk) (fun m hm hmk => h (m + 1) (by simpa using hm) (by omega)) hb
theorem firstE_ok {l : List Dr} (h : firstE l = 0) : ∀ k (hk : k < l.length), l[k].err = 0 := by
  induction l with
  | nil => intro k hk; simp at hk
  | cons x l ih =>
    unfold firstE at h
    by_cases e : x.err = 0
    · rw [if_pos e] at h
      intro k hk
      cases k with
      | zero => exact e
      | succ k => exact ih h k (by simpa using hk)
    · rw [if_neg e] at h; exact absurd h e
/-- the cells of plates -/
def pic (vs : Nat → List Int) : Pic := fun i j => (vs i).getD j 0
/-- one operation -/
def drw (w : Nat) (h : Int) (x : Dr) (V : Pic) : Pic := if x.k = 2 then putL w h x.ink (pth x.l (x.l.length - 1)) V else filP w x.x0 x.y0 x.x1 x.y1 x.ink V
def drwL (w : Nat) (h : Int) (D : List Dr) (V : Pic) : Pic := D.foldl (fun V x => drw w h x V) V
theorem drwL_step (w : Nat) (h : Int) (D : List Dr) (V : Pic) (k : Nat) (hk : k < D.length) : drwL w h (D.take (k + 1)) V = drw w h D[k] (drwL w h (D.take k) V) := by
  unfold drwL; rw [List.take_succ_eq_append_getElem hk, List.foldl_append]; rfl
/-- the error of Over -/
def ovE (ws hs : Nat → Int) (vs : Nat → List Int) (D : List Dr) : Int := if errP ws hs vs ≠ 0 then errP ws hs vs else if 1024 < D.length then 3 else firstE D
def ovW (ws hs : Nat → Int) (vs : Nat → List Int) (D : List Dr) : Nat → Int := fun _ => if ovE ws hs vs D = 0 then ws 0 else 0
def ovH (ws hs : Nat → Int) (vs : Nat → List Int) (D : List Dr) : Nat → Int := fun _ => if ovE ws hs vs D = 0 then hs 0 else 0
def ovV (ws hs : Nat → Int) (vs : Nat → List Int) (D : List Dr) : Nat → List Int := fun i => if ovE ws hs vs D = 0 then (List.range (vs 0).length).map (drwL (ws 0).toNat (hs 0) D (pic vs) i) else []
theorem errP_ok {ws hs : Nat → Int} {vs : Nat → List Int} (h : errP ws hs vs = 0) : (1 ≤ ws 0 ∧ ws 0 ≤ 256) ∧ (1 ≤ hs 0 ∧ hs 0 ≤ 256) ∧ ∀ i, i < 4 → ws i = ws 0 ∧ hs i = hs 0 ∧ (vs i).length = (vs 0).length ∧ ws 0 * hs 0 = ((vs i).length : Int) ∧ okL (vs i) = true := by
  unfold errP at h
  cases h1 : all4 (armP ws hs vs)
  · rw [if_pos h1] at h; omega
  · rw [if_neg (by rw [h1]; simp)] at h
    cases h2 : (sideB (ws 0) && sideB (hs 0))
    · rw [if_pos h2] at h; omega
    · rw [if_neg (by rw [h2]; simp)] at h
      cases h3 : (all4 fun i => okL (vs i))
      · rw [if_pos h3] at h; omega
      · rw [Bool.and_eq_true] at h2
        have a1 := all4_iff.1 h1
        have a3 := all4_iff.1 h3
        have arm : ∀ i, i < 4 → ws i = ws 0 ∧ hs i = hs 0 ∧ ws i * hs i = ((vs i).length : Int) := fun i hi => by
          have := a1 i hi
          unfold armP at this
          simp at this
          exact ⟨this.1.1, this.1.2, this.2⟩
        refine ⟨(sideB_iff _).1 h2.1, (sideB_iff _).1 h2.2, fun i hi => ?_⟩
        obtain ⟨b1, b2, b3⟩ := arm i hi
        obtain ⟨-, -, b4⟩ := arm 0 (by omega)
        rw [b1, b2] at b3
        exact ⟨b1, b2, by omega, b3, a3 i hi⟩
theorem ck_ok {x : Dr} (h : x.err = 0) : (1 ≤ x.k ∧ x.k ≤ 3) ∧ bareB x.k (z4 x.x0 x.y0 x.x1 x.y1) x.l.length (z4 x.a x.b x.c x.d) = true ∧ x.l.length ≤ 4096 ∧ ok4 x.a x.b x.c x.d = true ∧ nr x.x0 x.y0 = true ∧ nr x.x1 x.y1 = true ∧ (x.l.all fun p => nr p.1 p.2) = true := by
  unfold Dr.err ckE at h
  by_cases h1 : x.k < 1 ∨ 3 < x.k
  · rw [if_pos h1] at h; omega
  · rw [if_neg h1] at h
    cases h2 : bareB x.k (z4 x.x0 x.y0 x.x1 x.y1) x.l.length (z4 x.a x.b x.c x.d)
    · rw [if_pos h2] at h; omega
    · rw [if_neg (by rw [h2]; simp)] at h
      by_cases h3 : 4096 < x.l.length
      · rw [if_pos h3] at h; omega
      · rw [if_neg h3] at h
        cases h4 : ok4 x.a x.b x.c x.d
        · rw [if_pos h4] at h; omega
        · rw [if_neg (by rw [h4]; simp)] at h
          cases h5 : ((nr x.x0 x.y0 && nr x.x1 x.y1) && x.l.all fun p => nr p.1 p.2)
          · rw [if_pos h5] at h; omega
          · rw [Bool.and_eq_true, Bool.and_eq_true] at h5
            exact ⟨by omega, rfl, by omega, rfl, h5.1.1, h5.1.2, h5.2⟩
end Go.Proofs.Ytjclioakdmilmaa.Ink
