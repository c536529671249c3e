/- The contract of Clip's closure that limits the part, for X and for Y. (printed by mkclip.py) -/
import Derived.Test.YtpdiojndfckmfaaCutF
import Derived.Deep.CutBlock
import Derived.Deep.DeepCutAuto
namespace Go.Proofs.Ytpdiojndfckmfaa
open Go.RowKit
open Num Geo Cut
set_option linter.unusedVariables false
def LM (v : World) (ko kf kl : Nat) (S : St) : Prop := Bl v ko S.ok ∧ Pl v kf S.n1 S.d1 S.x1 S.y1 ∧ Pl v kl S.n2 S.d2 S.x2 S.y2
theorem LM.later {v u : World} {ko kf kl : Nat} {S : St} (h : LM v ko kf kl S) (hb : Below v.heap.size v u) : LM u ko kf kl S := ⟨h.1.later hb, h.2.1.later hb, h.2.2.later hb⟩
def SB (S : St) : Prop := (-4194304 ≤ S.n1 ∧ S.n1 ≤ 4194304) ∧ (-4194304 ≤ S.d1 ∧ S.d1 ≤ 4194304) ∧ (-4194304 ≤ S.n2 ∧ S.n2 ≤ 4194304) ∧ (-4194304 ≤ S.d2 ∧ S.d2 ≤ 4194304)
theorem r_in {s w v : Int} (hs : -2097152 ≤ s ∧ s ≤ 2097152) (hw : -4194304 ≤ w ∧ w ≤ 4194304) (h0 : w ≠ 0) : (-4194304 ≤ rN s w v ∧ rN s w v ≤ 4194304) ∧ (-4194304 ≤ rD s w v ∧ rD s w v ≤ 4194304) := by
  rcases reach_cases s w v h0 with h | h | h | h | h | h
  all_goals (obtain ⟨-, h⟩ := h; omega)
theorem lim1_sb {S : St} {s w e X Y : Int} (hS : SB S) (hs : -2097152 ≤ s ∧ s ≤ 2097152) (hw : -4194304 ≤ w ∧ w ≤ 4194304) (h0 : w ≠ 0) : SB (lim1 S s w e X Y) := by
  have h := r_in (v := e) hs hw h0
  unfold lim1 SB at *
  repeat' split
  · exact ⟨h.1, h.2, hS.2.2.1, hS.2.2.2⟩
  · exact hS
  · exact hS
/-- what lim1, lim2 are -/
theorem lim1_out {S : St} {s w e X Y : Int} (h : ins s w e = false) : lim1 S s w e X Y = { S with ok := S.ok && decide (rN s w e ≤ 0) } := by unfold lim1; rw [if_neg (by simp [h])]
theorem lim1_new {S : St} {s w e X Y : Int} (h : ins s w e = true) (hl : decide (S.n1 * rD s w e < rN s w e * S.d1) = true) : lim1 S s w e X Y = { S with n1 := rN s w e, d1 := rD s w e, x1 := X, y1 := Y } := by
  unfold lim1; rw [if_pos h, if_pos (by simpa using hl)]
theorem lim1_old {S : St} {s w e X Y : Int} (h : ins s w e = true) (hl : decide (S.n1 * rD s w e < rN s w e * S.d1) = false) : lim1 S s w e X Y = S := by
  unfold lim1; rw [if_pos h, if_neg (by simpa using hl)]
theorem lim2_out {S : St} {s w e X Y : Int} (h : ins s w e = false) : lim2 S s w e X Y = { S with ok := S.ok && decide (0 < rN s w e) } := by unfold lim2; rw [if_neg (by simp [h])]
theorem lim2_new {S : St} {s w e X Y : Int} (h : ins s w e = true) (hl : decide (rN s w e * S.d2 < S.n2 * rD s w e) = true) : lim2 S s w e X Y = { S with n2 := rN s w e, d2 := rD s w e, x2 := X, y2 := Y } := by
  unfold lim2; rw [if_pos h, if_pos (by simpa using hl)]
theorem lim2_old {S : St} {s w e X Y : Int} (h : ins s w e = true) (hl : decide (rN s w e * S.d2 < S.n2 * rD s w e) = false) : lim2 S s w e X Y = S := by
  unfold lim2; rw [if_pos h, if_neg (by simpa using hl)]
theorem Bx.keep {B b : Nat} {v u : World} {x y : Int} (h : Bx v b x y) (hb : Below B v u) (hl : b < B) : Bx u b x y := by
  refine ⟨?_, ?_, fun o => ?_⟩
  · rw [hb.cell hl]; exact h.1
  · rw [hb.cell hl]; exact h.2.1
  · exact (hb.frozen (p := ⟨b, o, none⟩) hl).trans (h.2.2 o)
/-- a place is written -/
theorem LM.put1 {v : World} {ko kf kl : Nat} {S : St} (h : LM v ko kf kl S) (h1 : ko ≠ kf) (h2 : kf ≠ kl) (n d x y : Int) :
    LM ((((v.setCell ⟨kf, 0, none⟩ (.int .i64 n)).setCell ⟨kf, 1, none⟩ (.int .i64 d)).setCell ⟨kf, 2, none⟩ (.int .i64 x)).setCell ⟨kf, 3, none⟩ (.int .i64 y)) ko kf kl { S with n1 := n, d1 := d, x1 := x, y1 := y } :=
  ⟨(((h.1.other h1 _).other h1 _).other h1 _).other h1 _, (((h.2.1.set0 n).set1 d).set2 x).set3 y, (((h.2.2.other (Ne.symm h2) _).other (Ne.symm h2) _).other (Ne.symm h2) _).other (Ne.symm h2) _⟩
theorem LM.put2 {v : World} {ko kf kl : Nat} {S : St} (h : LM v ko kf kl S) (h1 : ko ≠ kl) (h2 : kf ≠ kl) (n d x y : Int) :
    LM ((((v.setCell ⟨kl, 0, none⟩ (.int .i64 n)).setCell ⟨kl, 1, none⟩ (.int .i64 d)).setCell ⟨kl, 2, none⟩ (.int .i64 x)).setCell ⟨kl, 3, none⟩ (.int .i64 y)) ko kf kl { S with n2 := n, d2 := d, x2 := x, y2 := y } :=
  ⟨(((h.1.other h1 _).other h1 _).other h1 _).other h1 _, (((h.2.1.other h2 _).other h2 _).other h2 _).other h2 _, (((h.2.2.set0 n).set1 d).set2 x).set3 y⟩
theorem LM.putb {v : World} {ko kf kl : Nat} {S : St} (h : LM v ko kf kl S) (h1 : ko ≠ kf) (h2 : ko ≠ kl) (b : Bool) :
    LM (v.setCell ⟨ko, 0, none⟩ (.bool b)) ko kf kl { S with ok := b } :=
  ⟨h.1.same b, h.2.1.other (Ne.symm h1) _, h.2.2.other (Ne.symm h2) _⟩
/-- a new place, written whole and in its point, the others as they are -/
theorem LM.other {v : World} {ko kf kl : Nat} {S : St} (h : LM v ko kf kl S) {c o : Nat} (h1 : ko ≠ c) (h2 : kf ≠ c) (h3 : kl ≠ c) (z : Value) : LM (v.setCell ⟨c, o, none⟩ z) ko kf kl S :=
  ⟨h.1.other h1 z, h.2.1.other h2 z, h.2.2.other h3 z⟩
theorem LM.lt {v : World} {ko kf kl : Nat} {S : St} (h : LM v ko kf kl S) : ko < v.heap.size ∧ kf < v.heap.size ∧ kl < v.heap.size := ⟨cell_lt h.1.1, cell_lt h.2.1.1, cell_lt h.2.2.1⟩
def NW (v : World) (n d : Int) (t : TypeId) : World := ((((v.alloc (.cells #[.int .i64 0, .int .i64 0, .int .i64 0, .int .i64 0] t)).setCell ⟨v.heap.size, 0, none⟩ (.int .i64 n)).setCell ⟨v.heap.size, 1, none⟩ (.int .i64 d)).setCell ⟨v.heap.size, 2, none⟩ (.int .i64 0)).setCell ⟨v.heap.size, 3, none⟩ (.int .i64 0)
theorem NW_pl (v : World) (n d : Int) (t : TypeId) : Pl (NW v n d t) v.heap.size n d 0 0 := ((((Pl.new v 0 0 0 0 t).set0 n).set1 d).set2 0).set3 0
theorem NW_lm {v : World} {ko kf kl : Nat} {S : St} (h : LM v ko kf kl S) (n d : Int) (t : TypeId) : LM (NW v n d t) ko kf kl S := by
  obtain ⟨h1, h2, h3⟩ := h.lt
  exact ((((h.later (below_al v _)).other (by omega) (by omega) (by omega) _).other (by omega) (by omega) (by omega) _).other (by omega) (by omega) (by omega) _).other (by omega) (by omega) (by omega) _
theorem NW_below {v : World} (n d : Int) (t : TypeId) : Below v.heap.size v (NW v n d t) :=
  (((((below_al v _).setCell (Nat.le_refl _) _)).setCell (Nat.le_refl _) _).setCell (Nat.le_refl _) _).setCell (Nat.le_refl _) _
/-- everything that the walk carries -/
def LW (W v : World) (B ko kf kl a b : Nat) (ax ay bx by_ : Int) (S : St) : Prop := LM v ko kf kl S ∧ Bx v a ax ay ∧ Bx v b bx by_ ∧ Below B W v ∧ B ≤ v.heap.size
theorem LW.later {W v u : World} {B ko kf kl a b : Nat} {ax ay bx by_ : Int} {S : St} (h : LW W v B ko kf kl a b ax ay bx by_ S) (hb : Below v.heap.size v u) : LW W u B ko kf kl a b ax ay bx by_ S :=
  ⟨h.1.later hb, h.2.1.later hb, h.2.2.1.later hb, h.2.2.2.1.trans (hb.mono h.2.2.2.2), Nat.le_trans h.2.2.2.2 hb.size⟩
/-- where the new block lies -/
def HKs (B ko kf kl a b : Nat) : Prop := B ≤ ko ∧ B ≤ kf ∧ B ≤ kl ∧ ko ≠ kf ∧ ko ≠ kl ∧ kf ≠ kl ∧ a < B ∧ b < B
def Dis (B ko kf kl nb : Nat) : Prop := ko ≠ nb ∧ kf ≠ nb ∧ kl ≠ nb ∧ B ≤ nb
theorem LW.dis {W v : World} {B ko kf kl a b : Nat} {ax ay bx by_ : Int} {S : St} (k : HKs B ko kf kl a b) (h : LW W v B ko kf kl a b ax ay bx by_ S) : Dis B ko kf kl v.heap.size := by
  obtain ⟨h1, h2, h3⟩ := h.1.lt
  exact ⟨by omega, by omega, by omega, h.2.2.2.2⟩
theorem Bx.keep1 {B b : Nat} {v : World} {x y : Int} {c o : Nat} (h : Bx v b x y) (h1 : b < B) (h2 : B ≤ c) (z : Value) : Bx (v.setCell ⟨c, o, none⟩ z) b x y := h.other (by omega) z
theorem LW.putb {W v : World} {B ko kf kl a b' : Nat} {ax ay bx by_ : Int} {S : St} (h : LW W v B ko kf kl a b' ax ay bx by_ S) (k : HKs B ko kf kl a b') {b c : Bool} (e : b = c) :
    LW W (v.setCell ⟨ko, 0, none⟩ (.bool b)) B ko kf kl a b' ax ay bx by_ { S with ok := c } := by
  subst e
  obtain ⟨k1, k2, k3, k4, k5, k6, k7, k8⟩ := k
  exact ⟨h.1.putb k4 k5 b, h.2.1.keep1 k7 k1 _, h.2.2.1.keep1 k8 k1 _, h.2.2.2.1.setCell k1 _, by simpa using h.2.2.2.2⟩
theorem LW.other {W v : World} {B ko kf kl a b : Nat} {ax ay bx by_ : Int} {S : St} (h : LW W v B ko kf kl a b ax ay bx by_ S) (k : HKs B ko kf kl a b) {nb o : Nat} (d : Dis B ko kf kl nb) (z : Value) :
    LW W (v.setCell ⟨nb, o, none⟩ z) B ko kf kl a b ax ay bx by_ S := by
  obtain ⟨k1, k2, k3, k4, k5, k6, k7, k8⟩ := k
  exact ⟨h.1.other d.1 d.2.1 d.2.2.1 z, h.2.1.keep1 k7 d.2.2.2 _, h.2.2.1.keep1 k8 d.2.2.2 _, h.2.2.2.1.setCell d.2.2.2 _, by simpa using h.2.2.2.2⟩
theorem LW.put1 {W v : World} {B ko kf kl a b : Nat} {ax ay bx by_ : Int} {S : St} (h : LW W v B ko kf kl a b ax ay bx by_ S) (k : HKs B ko kf kl a b) {nb : Nat} (d : Dis B ko kf kl nb) (n m x y : Int) :
    LW W ((((((v.setCell ⟨nb, 2, none⟩ (.int .i64 x)).setCell ⟨nb, 3, none⟩ (.int .i64 y)).setCell ⟨kf, 0, none⟩ (.int .i64 n)).setCell ⟨kf, 1, none⟩ (.int .i64 m)).setCell ⟨kf, 2, none⟩ (.int .i64 x)).setCell ⟨kf, 3, none⟩ (.int .i64 y)) B ko kf kl a b ax ay bx by_ { S with n1 := n, d1 := m, x1 := x, y1 := y } := by
  have g := (h.other k d (o := 2) (.int .i64 x)).other k d (o := 3) (.int .i64 y)
  obtain ⟨k1, k2, k3, k4, k5, k6, k7, k8⟩ := k
  refine ⟨g.1.put1 k4 k6 n m x y, ?_, ?_, ?_, by simpa using h.2.2.2.2⟩
  · exact (((g.2.1.keep1 k7 k2 _).keep1 k7 k2 _).keep1 k7 k2 _).keep1 k7 k2 _
  · exact (((g.2.2.1.keep1 k8 k2 _).keep1 k8 k2 _).keep1 k8 k2 _).keep1 k8 k2 _
  · exact (((g.2.2.2.1.setCell k2 _).setCell k2 _).setCell k2 _).setCell k2 _
theorem LW.put2 {W v : World} {B ko kf kl a b : Nat} {ax ay bx by_ : Int} {S : St} (h : LW W v B ko kf kl a b ax ay bx by_ S) (k : HKs B ko kf kl a b) {nb : Nat} (d : Dis B ko kf kl nb) (n m x y : Int) :
    LW W ((((((v.setCell ⟨nb, 2, none⟩ (.int .i64 x)).setCell ⟨nb, 3, none⟩ (.int .i64 y)).setCell ⟨kl, 0, none⟩ (.int .i64 n)).setCell ⟨kl, 1, none⟩ (.int .i64 m)).setCell ⟨kl, 2, none⟩ (.int .i64 x)).setCell ⟨kl, 3, none⟩ (.int .i64 y)) B ko kf kl a b ax ay bx by_ { S with n2 := n, d2 := m, x2 := x, y2 := y } := by
  have g := (h.other k d (o := 2) (.int .i64 x)).other k d (o := 3) (.int .i64 y)
  obtain ⟨k1, k2, k3, k4, k5, k6, k7, k8⟩ := k
  refine ⟨g.1.put2 k5 k6 n m x y, ?_, ?_, ?_, by simpa using h.2.2.2.2⟩
  · exact (((g.2.1.keep1 k7 k3 _).keep1 k7 k3 _).keep1 k7 k3 _).keep1 k7 k3 _
  · exact (((g.2.2.1.keep1 k8 k3 _).keep1 k8 k3 _).keep1 k8 k3 _).keep1 k8 k3 _
  · exact (((g.2.2.2.1.setCell k3 _).setCell k3 _).setCell k3 _).setCell k3 _
theorem LW.eq {W v : World} {B ko kf kl a b : Nat} {ax ay bx by_ : Int} {S S' : St} (h : LW W v B ko kf kl a b ax ay bx by_ S') (e : S = S') : LW W v B ko kf kl a b ax ay bx by_ S := e ▸ h

set_option maxRecDepth 100000 in
set_option maxHeartbeats 8000000 in
theorem limX_any (S : St) (ax ay bx by_ s w f t : Int) (ko kf kl a b B : Nat) (W : World) (hs : -2097152 ≤ s ∧ s ≤ 2097152) (hw : -4194304 ≤ w ∧ w ≤ 4194304) (hf : I64 f) (ht : I64 t) (hS : SB S)
    (hk : HKs B ko kf kl a b) (HL : LW W W B ko kf kl a b ax ay bx by_ S) :
    Calls Try.prog 27 #[.int .i64 s, .int .i64 w, .int .i64 f, .int .i64 t, .func (.func 30) #[] #[.pointer (some ⟨a, 0, none⟩), .pointer (some ⟨b, 0, none⟩)], .pointer (some ⟨ko, 0, none⟩), .pointer (some ⟨kf, 0, none⟩), .pointer (some ⟨kl, 0, none⟩)] W
      fun e w' => e = .returned (.tuple #[]) ∧ LM w' ko kf kl (lim S s w f t (fun v => v) (fun v => atV ax ay bx by_ v)) ∧ Below B W w' := by
  have hs' := Lib.hid hs
  have hw' := Lib.hid hw
  have hsb := Lib.hid hS
  have HK := Lib.hid hk
  have H0 := Lib.hid HL
  clear HL hS hk hs hw
  by_cases hc : w = 0 ∨ t < f
  · have EL : Hid (lim S s w f t (fun v => v) (fun v => atV ax ay bx by_ v) = { S with ok := S.ok && (decide (f ≤ s) && decide (s ≤ t)) }) := Lib.hid (by unfold lim; rw [if_pos hc])
    rw [EL.out]
    clear EL hf ht
    have P1 := Lib.hid (fun b => LM.putb H0.out.1 HK.out.2.2.2.1 HK.out.2.2.2.2.1 b)
    have P2 := Lib.hid (fun v => H0.out.2.2.2.1.setCell (p := ⟨ko, 0, none⟩) HK.out.1 v)
    obtain ⟨⟨⟨o0, yo⟩, ⟨f0, f1, f2, f3, yf⟩, ⟨e0, e1, e2, e3, ye⟩⟩, -, -, -, -⟩ := H0.out
    clear H0 HK
    generalize hok : S.ok = ok at *
    go_enter Try.func27, Try.ntmps27
    by_cases hw0 : w = 0
    all_goals
      first
        | subst hw0
        | (have tf : decide (t < f) = true := by simp; omega
           have w0 : (w == 0) = false := by simpa using hw0)
      clear hc
      cases ok
      · go_wp2
        exact bodyPost_ret (v := .tuple #[]) (by simp [results, Try.results27, go_sem]) rfl ⟨rfl, P1.out _, P2.out _⟩
      · by_cases hfs : f ≤ s
        · have q1 : decide (f ≤ s) = true := by simpa using hfs
          by_cases hst : s ≤ t
          · have q2 : decide (s ≤ t) = true := by simpa using hst
            rw [q1, q2]
            go_wp2
            exact bodyPost_ret (v := .tuple #[]) (by simp [results, Try.results27, go_sem]) rfl ⟨rfl, P1.out _, P2.out _⟩
          · have q2 : decide (s ≤ t) = false := by simpa using hst
            rw [q1, q2]
            go_wp2
            exact bodyPost_ret (v := .tuple #[]) (by simp [results, Try.results27, go_sem]) rfl ⟨rfl, P1.out _, P2.out _⟩
        · have q1 : decide (f ≤ s) = false := by simpa using hfs
          rw [q1]
          go_wp2
          exact bodyPost_ret (v := .tuple #[]) (by simp [results, Try.results27, go_sem]) rfl ⟨rfl, P1.out _, P2.out _⟩
  · have hw0 : w ≠ 0 := by omega
    have htf : ¬ t < f := by omega
    have EE : ∃ e l, I64 e ∧ I64 l ∧ Hid ((w < 0 ∧ e = t ∧ l = f) ∨ (¬ w < 0 ∧ e = f ∧ l = t)) ∧ Hid (lim S s w f t (fun v => v) (fun v => atV ax ay bx by_ v) = lim2 (lim1 S s w e (e) (atV ax ay bx by_ e)) s w l (l) (atV ax ay bx by_ l)) := by
      by_cases hn : w < 0
      · exact ⟨t, f, ht, hf, Lib.hid (.inl ⟨hn, rfl, rfl⟩), Lib.hid (by unfold lim; rw [if_neg hc]; simp only [if_pos hn])⟩
      · exact ⟨f, t, hf, ht, Lib.hid (.inr ⟨hn, rfl, rfl⟩), Lib.hid (by unfold lim; rw [if_neg hc]; simp only [if_neg hn])⟩
    obtain ⟨e, l, he, hl, HE, EL⟩ := EE
    rw [EL.out]
    clear EL
    have HR1 := Lib.hid (fun v => reach_any s w e v hs'.out hw'.out hw0 he)
    have HR2 := Lib.hid (fun v => reach_any s w l v hs'.out hw'.out hw0 hl)
    have RB1 := Lib.hid (r_in (v := e) hs'.out hw'.out hw0)
    have RB2 := Lib.hid (r_in (v := l) hs'.out hw'.out hw0)
    have SB2 := Lib.hid (lim1_sb (e := e) (X := e) (Y := atV ax ay bx by_ e) hsb.out hs'.out hw'.out hw0)
    have I1 := Lib.hid he
    have I2 := Lib.hid hl
    have tf : decide (t < f) = false := by simp; omega
    have w0 : (w == 0) = false := by simpa using hw0
    clear hc hs' hw' hf ht hw0 htf he hl
    go_enter Try.func27, Try.ntmps27
    go_upto_if 40 with fail
    go_cut [13, 14] from 40 to 42 (fun v v' wc => v = .int .i64 e ∧ v' = .int .i64 l ∧ wc = W)
    case first =>
      rcases HE.out with ⟨g1, rfl, rfl⟩ | ⟨g1, rfl, rfl⟩
      · have d1 : decide (w < 0) = true := by simpa using g1
        go_wp2
        go_meet
        exact ⟨rfl, rfl, rfl⟩
      · have d1 : decide (w < 0) = false := by simpa using g1
        go_wp2
        go_meet
        exact ⟨rfl, rfl, rfl⟩
    case rest =>
    obtain ⟨rfl, rfl, hwc⟩ := hcut
    have hwc := hwc.symm
    subst hwc
    clear HE

    go_wp2_with fail
    refine (HR1.out _).mono ?_
    rintro e' w1 ⟨rfl, hb⟩
    have G0 := Lib.hid (H0.out.later hb)
    clear hb H0 HR1
    have G1 := Lib.hid (G0.out.later (below_al w1 (.cells #[.int .i64 (rN s w e), .int .i64 (rD s w e), .int .i64 0, .int .i64 0] 51)))
    have N1 := Lib.hid (Pl.new w1 (rN s w e) (rD s w e) 0 0 51)
    have D1 := Lib.hid (LW.dis HK.out G0.out)
    have Z1 := Lib.hid (G0.out.2.2.2.2)
    clear G0
    have IO := Lib.hid (fun h => lim1_out (S := S) (s := s) (w := w) (e := e) (X := e) (Y := atV ax ay bx by_ e) h)
    have IN := Lib.hid (fun h g => lim1_new (S := S) (s := s) (w := w) (e := e) (X := e) (Y := atV ax ay bx by_ e) h g)
    have IP := Lib.hid (fun h g => lim1_old (S := S) (s := s) (w := w) (e := e) (X := e) (Y := atV ax ay bx by_ e) h g)
    go_upto_if 51 with fail
    generalize hu : w1.alloc (.cells #[.int .i64 (rN s w e), .int .i64 (rD s w e), .int .i64 0, .int .i64 0] 51) = u at *
    clear hu
    generalize hnb : w1.heap.size = nb at *
    clear hnb
    generalize hrn : rN s w e = rn at *
    generalize hrd : rD s w e = rd at *
    generalize hrb : ins s w e = rb at *
    clear hrn hrd hrb

    go_cut [14] from 52 to 65 (fun v wc => v = .int .i64 l ∧ Hid (LW W wc B ko kf kl a b ax ay bx by_ (lim1 S s w e (e) (atV ax ay bx by_ e))))
    case first =>

      obtain ⟨⟨⟨o0, yo⟩, ⟨f0, f1, f2, f3, yf⟩, ⟨e0, e1, e2, e3, ye⟩⟩, -, -, -, -⟩ := G1.out
      obtain ⟨m0, m1, m2, m3, ym⟩ := N1.out
      cases rb
      · have E := Lib.hid (IO.out rfl)
        clear IO IN IP
        cases hok : S.ok
        · rw [hok] at o0
          have PB := Lib.hid (LW.eq (LW.putb G1.out HK.out (b := false) (c := S.ok && decide (rn ≤ 0)) (by rw [hok]; rfl)) E.out)
          clear hok G1 N1 E
          go_wp2
          go_meet
          exact ⟨rfl, PB⟩
        · rw [hok] at o0
          have PB := Lib.hid (LW.eq (LW.putb G1.out HK.out (b := decide (rn ≤ 0)) (c := S.ok && decide (rn ≤ 0)) (by rw [hok]; rfl)) E.out)
          clear hok G1 N1 E
          go_wp2
          go_meet
          exact ⟨rfl, PB⟩
      · have IN2 := Lib.hid (IN.out rfl)
        have IP2 := Lib.hid (IP.out rfl)
        clear IO IN IP
        have LS := Lib.hid (fun v => less_any S.n1 S.d1 S.x1 S.y1 rn rd 0 0 v hsb.out.1 hsb.out.2.1 RB1.out.1 RB1.out.2)
        go_wp2_with fail
        refine (LS.out _).mono ?_
        rintro e' w2 ⟨rfl, hb⟩
        have G2 := Lib.hid (G1.out.later hb)
        have N2 := Lib.hid (N1.out.later hb)
        clear hb G1 N1 LS o0 yo f0 f1 f2 f3 yf e0 e1 e2 e3 ye m0 m1 m2 m3 ym
        cases hd : decide (S.n1 * rd < rn * S.d1)
        · have E := Lib.hid (IP2.out hd)
          clear IP2 IN2 hd
          have PB := Lib.hid (LW.eq G2.out E.out)
          clear G2 N2 E
          go_wp2
          go_meet
          exact ⟨rfl, PB⟩
        · have E := Lib.hid (IN2.out hd)
          clear IP2 IN2 hd
          go_wp2_with fail
          refine (ptX_any ax ay bx by_ e a b w2 I1.out G2.out.2.1 G2.out.2.2.1).mono ?_
          rintro e' w3 ⟨rfl, hb⟩
          have G3 := Lib.hid (G2.out.later hb)
          have N3 := Lib.hid (N2.out.later hb)
          clear hb G2 N2
          obtain ⟨⟨⟨o0, yo⟩, ⟨f0, f1, f2, f3, yf⟩, ⟨e0, e1, e2, e3, ye⟩⟩, -, -, -, -⟩ := G3.out
          obtain ⟨m0, m1, m2, m3, ym⟩ := N3.out
          have PB := Lib.hid (LW.eq (LW.put1 G3.out HK.out D1.out rn rd (e) (atV ax ay bx by_ e)) E.out)
          clear G3 N3 E
          have q1 := D1.out.2.1
          have q2 := Ne.symm q1
          go_wp2
          go_meet
          exact ⟨rfl, PB⟩

    case rest =>
    obtain ⟨rfl, H0⟩ := hcut
    clear IO IN IP G1 N1 D1 Z1 hsb RB1 I1
    generalize hS1 : lim1 S s w e (e) (atV ax ay bx by_ e) = S1 at *
    have HS1 := Lib.hid hS1
    clear hS1

    go_wp2_with fail
    refine (HR2.out _).mono ?_
    rintro e' w1 ⟨rfl, hb⟩
    have G0 := Lib.hid (H0.out.later hb)
    clear hb H0 HR2
    have G1 := Lib.hid (G0.out.later (below_al w1 (.cells #[.int .i64 (rN s w l), .int .i64 (rD s w l), .int .i64 0, .int .i64 0] 51)))
    have N1 := Lib.hid (Pl.new w1 (rN s w l) (rD s w l) 0 0 51)
    have D1 := Lib.hid (LW.dis HK.out G0.out)
    have Z1 := Lib.hid (G0.out.2.2.2.2)
    clear G0
    have IO := Lib.hid (fun h => lim2_out (S := S1) (s := s) (w := w) (e := l) (X := l) (Y := atV ax ay bx by_ l) h)
    have IN := Lib.hid (fun h g => lim2_new (S := S1) (s := s) (w := w) (e := l) (X := l) (Y := atV ax ay bx by_ l) h g)
    have IP := Lib.hid (fun h g => lim2_old (S := S1) (s := s) (w := w) (e := l) (X := l) (Y := atV ax ay bx by_ l) h g)
    go_upto_if 74 with fail
    generalize hu : w1.alloc (.cells #[.int .i64 (rN s w l), .int .i64 (rD s w l), .int .i64 0, .int .i64 0] 51) = u at *
    clear hu
    generalize hnb : w1.heap.size = nb at *
    clear hnb
    generalize hrn : rN s w l = rn at *
    generalize hrd : rD s w l = rd at *
    generalize hrb : ins s w l = rb at *
    clear hrn hrd hrb

    obtain ⟨⟨⟨o0, yo⟩, ⟨f0, f1, f2, f3, yf⟩, ⟨e0, e1, e2, e3, ye⟩⟩, -, -, -, -⟩ := G1.out
    obtain ⟨m0, m1, m2, m3, ym⟩ := N1.out
    cases rb
    · have E := Lib.hid (IO.out rfl)
      clear IO IN IP
      cases hok : S1.ok
      · rw [hok] at o0
        have PB := Lib.hid (LW.eq (LW.putb G1.out HK.out (b := false) (c := S1.ok && decide (0 < rn)) (by rw [hok]; rfl)) E.out)
        clear hok G1 N1 E
        go_wp2
        go_end0
        exact ⟨rfl, by rw [HS1.out]; exact PB.out.1, PB.out.2.2.2.1⟩
      · rw [hok] at o0
        have PB := Lib.hid (LW.eq (LW.putb G1.out HK.out (b := decide (0 < rn)) (c := S1.ok && decide (0 < rn)) (by rw [hok]; rfl)) E.out)
        clear hok G1 N1 E
        go_wp2
        go_end0
        exact ⟨rfl, by rw [HS1.out]; exact PB.out.1, PB.out.2.2.2.1⟩
    · have IN2 := Lib.hid (IN.out rfl)
      have IP2 := Lib.hid (IP.out rfl)
      clear IO IN IP
      have LS := Lib.hid (fun v => less_any rn rd 0 0 S1.n2 S1.d2 S1.x2 S1.y2 v RB2.out.1 RB2.out.2 SB2.out.2.2.1 SB2.out.2.2.2)
      go_wp2_with fail
      refine (LS.out _).mono ?_
      rintro e' w2 ⟨rfl, hb⟩
      have G2 := Lib.hid (G1.out.later hb)
      have N2 := Lib.hid (N1.out.later hb)
      clear hb G1 N1 LS o0 yo f0 f1 f2 f3 yf e0 e1 e2 e3 ye m0 m1 m2 m3 ym
      cases hd : decide (rn * S1.d2 < S1.n2 * rd)
      · have E := Lib.hid (IP2.out hd)
        clear IP2 IN2 hd
        have PB := Lib.hid (LW.eq G2.out E.out)
        clear G2 N2 E
        go_wp2
        go_end0
        exact ⟨rfl, by rw [HS1.out]; exact PB.out.1, PB.out.2.2.2.1⟩
      · have E := Lib.hid (IN2.out hd)
        clear IP2 IN2 hd
        go_wp2_with fail
        refine (ptX_any ax ay bx by_ l a b w2 I2.out G2.out.2.1 G2.out.2.2.1).mono ?_
        rintro e' w3 ⟨rfl, hb⟩
        have G3 := Lib.hid (G2.out.later hb)
        have N3 := Lib.hid (N2.out.later hb)
        clear hb G2 N2
        obtain ⟨⟨⟨o0, yo⟩, ⟨f0, f1, f2, f3, yf⟩, ⟨e0, e1, e2, e3, ye⟩⟩, -, -, -, -⟩ := G3.out
        obtain ⟨m0, m1, m2, m3, ym⟩ := N3.out
        have PB := Lib.hid (LW.eq (LW.put2 G3.out HK.out D1.out rn rd (l) (atV ax ay bx by_ l)) E.out)
        clear G3 N3 E
        have q1 := D1.out.2.2.1
        have q2 := Ne.symm q1
        go_wp2
        go_end0
        exact ⟨rfl, by rw [HS1.out]; exact PB.out.1, PB.out.2.2.2.1⟩

set_option maxRecDepth 100000 in
set_option maxHeartbeats 8000000 in
theorem limY_any (S : St) (ax ay bx by_ s w f t : Int) (ko kf kl a b B : Nat) (W : World) (hs : -2097152 ≤ s ∧ s ≤ 2097152) (hw : -4194304 ≤ w ∧ w ≤ 4194304) (hf : I64 f) (ht : I64 t) (hS : SB S)
    (hk : HKs B ko kf kl a b) (HL : LW W W B ko kf kl a b ax ay bx by_ S) :
    Calls Try.prog 27 #[.int .i64 s, .int .i64 w, .int .i64 f, .int .i64 t, .func (.func 31) #[] #[.pointer (some ⟨a, 0, none⟩), .pointer (some ⟨b, 0, none⟩)], .pointer (some ⟨ko, 0, none⟩), .pointer (some ⟨kf, 0, none⟩), .pointer (some ⟨kl, 0, none⟩)] W
      fun e w' => e = .returned (.tuple #[]) ∧ LM w' ko kf kl (lim S s w f t (fun v => atV ay ax by_ bx v) (fun v => v)) ∧ Below B W w' := by
  have hs' := Lib.hid hs
  have hw' := Lib.hid hw
  have hsb := Lib.hid hS
  have HK := Lib.hid hk
  have H0 := Lib.hid HL
  clear HL hS hk hs hw
  by_cases hc : w = 0 ∨ t < f
  · have EL : Hid (lim S s w f t (fun v => atV ay ax by_ bx v) (fun v => v) = { S with ok := S.ok && (decide (f ≤ s) && decide (s ≤ t)) }) := Lib.hid (by unfold lim; rw [if_pos hc])
    rw [EL.out]
    clear EL hf ht
    have P1 := Lib.hid (fun b => LM.putb H0.out.1 HK.out.2.2.2.1 HK.out.2.2.2.2.1 b)
    have P2 := Lib.hid (fun v => H0.out.2.2.2.1.setCell (p := ⟨ko, 0, none⟩) HK.out.1 v)
    obtain ⟨⟨⟨o0, yo⟩, ⟨f0, f1, f2, f3, yf⟩, ⟨e0, e1, e2, e3, ye⟩⟩, -, -, -, -⟩ := H0.out
    clear H0 HK
    generalize hok : S.ok = ok at *
    go_enter Try.func27, Try.ntmps27
    by_cases hw0 : w = 0
    all_goals
      first
        | subst hw0
        | (have tf : decide (t < f) = true := by simp; omega
           have w0 : (w == 0) = false := by simpa using hw0)
      clear hc
      cases ok
      · go_wp2
        exact bodyPost_ret (v := .tuple #[]) (by simp [results, Try.results27, go_sem]) rfl ⟨rfl, P1.out _, P2.out _⟩
      · by_cases hfs : f ≤ s
        · have q1 : decide (f ≤ s) = true := by simpa using hfs
          by_cases hst : s ≤ t
          · have q2 : decide (s ≤ t) = true := by simpa using hst
            rw [q1, q2]
            go_wp2
            exact bodyPost_ret (v := .tuple #[]) (by simp [results, Try.results27, go_sem]) rfl ⟨rfl, P1.out _, P2.out _⟩
          · have q2 : decide (s ≤ t) = false := by simpa using hst
            rw [q1, q2]
            go_wp2
            exact bodyPost_ret (v := .tuple #[]) (by simp [results, Try.results27, go_sem]) rfl ⟨rfl, P1.out _, P2.out _⟩
        · have q1 : decide (f ≤ s) = false := by simpa using hfs
          rw [q1]
          go_wp2
          exact bodyPost_ret (v := .tuple #[]) (by simp [results, Try.results27, go_sem]) rfl ⟨rfl, P1.out _, P2.out _⟩
  · have hw0 : w ≠ 0 := by omega
    have htf : ¬ t < f := by omega
    have EE : ∃ e l, I64 e ∧ I64 l ∧ Hid ((w < 0 ∧ e = t ∧ l = f) ∨ (¬ w < 0 ∧ e = f ∧ l = t)) ∧ Hid (lim S s w f t (fun v => atV ay ax by_ bx v) (fun v => v) = lim2 (lim1 S s w e (atV ay ax by_ bx e) (e)) s w l (atV ay ax by_ bx l) (l)) := by
      by_cases hn : w < 0
      · exact ⟨t, f, ht, hf, Lib.hid (.inl ⟨hn, rfl, rfl⟩), Lib.hid (by unfold lim; rw [if_neg hc]; simp only [if_pos hn])⟩
      · exact ⟨f, t, hf, ht, Lib.hid (.inr ⟨hn, rfl, rfl⟩), Lib.hid (by unfold lim; rw [if_neg hc]; simp only [if_neg hn])⟩
    obtain ⟨e, l, he, hl, HE, EL⟩ := EE
    rw [EL.out]
    clear EL
    have HR1 := Lib.hid (fun v => reach_any s w e v hs'.out hw'.out hw0 he)
    have HR2 := Lib.hid (fun v => reach_any s w l v hs'.out hw'.out hw0 hl)
    have RB1 := Lib.hid (r_in (v := e) hs'.out hw'.out hw0)
    have RB2 := Lib.hid (r_in (v := l) hs'.out hw'.out hw0)
    have SB2 := Lib.hid (lim1_sb (e := e) (X := atV ay ax by_ bx e) (Y := e) hsb.out hs'.out hw'.out hw0)
    have I1 := Lib.hid he
    have I2 := Lib.hid hl
    have tf : decide (t < f) = false := by simp; omega
    have w0 : (w == 0) = false := by simpa using hw0
    clear hc hs' hw' hf ht hw0 htf he hl
    go_enter Try.func27, Try.ntmps27
    go_upto_if 40 with fail
    go_cut [13, 14] from 40 to 42 (fun v v' wc => v = .int .i64 e ∧ v' = .int .i64 l ∧ wc = W)
    case first =>
      rcases HE.out with ⟨g1, rfl, rfl⟩ | ⟨g1, rfl, rfl⟩
      · have d1 : decide (w < 0) = true := by simpa using g1
        go_wp2
        go_meet
        exact ⟨rfl, rfl, rfl⟩
      · have d1 : decide (w < 0) = false := by simpa using g1
        go_wp2
        go_meet
        exact ⟨rfl, rfl, rfl⟩
    case rest =>
    obtain ⟨rfl, rfl, hwc⟩ := hcut
    have hwc := hwc.symm
    subst hwc
    clear HE

    go_wp2_with fail
    refine (HR1.out _).mono ?_
    rintro e' w1 ⟨rfl, hb⟩
    have G0 := Lib.hid (H0.out.later hb)
    clear hb H0 HR1
    have G1 := Lib.hid (G0.out.later (below_al w1 (.cells #[.int .i64 (rN s w e), .int .i64 (rD s w e), .int .i64 0, .int .i64 0] 51)))
    have N1 := Lib.hid (Pl.new w1 (rN s w e) (rD s w e) 0 0 51)
    have D1 := Lib.hid (LW.dis HK.out G0.out)
    have Z1 := Lib.hid (G0.out.2.2.2.2)
    clear G0
    have IO := Lib.hid (fun h => lim1_out (S := S) (s := s) (w := w) (e := e) (X := atV ay ax by_ bx e) (Y := e) h)
    have IN := Lib.hid (fun h g => lim1_new (S := S) (s := s) (w := w) (e := e) (X := atV ay ax by_ bx e) (Y := e) h g)
    have IP := Lib.hid (fun h g => lim1_old (S := S) (s := s) (w := w) (e := e) (X := atV ay ax by_ bx e) (Y := e) h g)
    go_upto_if 51 with fail
    generalize hu : w1.alloc (.cells #[.int .i64 (rN s w e), .int .i64 (rD s w e), .int .i64 0, .int .i64 0] 51) = u at *
    clear hu
    generalize hnb : w1.heap.size = nb at *
    clear hnb
    generalize hrn : rN s w e = rn at *
    generalize hrd : rD s w e = rd at *
    generalize hrb : ins s w e = rb at *
    clear hrn hrd hrb

    go_cut [14] from 52 to 65 (fun v wc => v = .int .i64 l ∧ Hid (LW W wc B ko kf kl a b ax ay bx by_ (lim1 S s w e (atV ay ax by_ bx e) (e))))
    case first =>

      obtain ⟨⟨⟨o0, yo⟩, ⟨f0, f1, f2, f3, yf⟩, ⟨e0, e1, e2, e3, ye⟩⟩, -, -, -, -⟩ := G1.out
      obtain ⟨m0, m1, m2, m3, ym⟩ := N1.out
      cases rb
      · have E := Lib.hid (IO.out rfl)
        clear IO IN IP
        cases hok : S.ok
        · rw [hok] at o0
          have PB := Lib.hid (LW.eq (LW.putb G1.out HK.out (b := false) (c := S.ok && decide (rn ≤ 0)) (by rw [hok]; rfl)) E.out)
          clear hok G1 N1 E
          go_wp2
          go_meet
          exact ⟨rfl, PB⟩
        · rw [hok] at o0
          have PB := Lib.hid (LW.eq (LW.putb G1.out HK.out (b := decide (rn ≤ 0)) (c := S.ok && decide (rn ≤ 0)) (by rw [hok]; rfl)) E.out)
          clear hok G1 N1 E
          go_wp2
          go_meet
          exact ⟨rfl, PB⟩
      · have IN2 := Lib.hid (IN.out rfl)
        have IP2 := Lib.hid (IP.out rfl)
        clear IO IN IP
        have LS := Lib.hid (fun v => less_any S.n1 S.d1 S.x1 S.y1 rn rd 0 0 v hsb.out.1 hsb.out.2.1 RB1.out.1 RB1.out.2)
        go_wp2_with fail
        refine (LS.out _).mono ?_
        rintro e' w2 ⟨rfl, hb⟩
        have G2 := Lib.hid (G1.out.later hb)
        have N2 := Lib.hid (N1.out.later hb)
        clear hb G1 N1 LS o0 yo f0 f1 f2 f3 yf e0 e1 e2 e3 ye m0 m1 m2 m3 ym
        cases hd : decide (S.n1 * rd < rn * S.d1)
        · have E := Lib.hid (IP2.out hd)
          clear IP2 IN2 hd
          have PB := Lib.hid (LW.eq G2.out E.out)
          clear G2 N2 E
          go_wp2
          go_meet
          exact ⟨rfl, PB⟩
        · have E := Lib.hid (IN2.out hd)
          clear IP2 IN2 hd
          go_wp2_with fail
          refine (ptY_any ax ay bx by_ e a b w2 I1.out G2.out.2.1 G2.out.2.2.1).mono ?_
          rintro e' w3 ⟨rfl, hb⟩
          have G3 := Lib.hid (G2.out.later hb)
          have N3 := Lib.hid (N2.out.later hb)
          clear hb G2 N2
          obtain ⟨⟨⟨o0, yo⟩, ⟨f0, f1, f2, f3, yf⟩, ⟨e0, e1, e2, e3, ye⟩⟩, -, -, -, -⟩ := G3.out
          obtain ⟨m0, m1, m2, m3, ym⟩ := N3.out
          have PB := Lib.hid (LW.eq (LW.put1 G3.out HK.out D1.out rn rd (atV ay ax by_ bx e) (e)) E.out)
          clear G3 N3 E
          have q1 := D1.out.2.1
          have q2 := Ne.symm q1
          go_wp2
          go_meet
          exact ⟨rfl, PB⟩

    case rest =>
    obtain ⟨rfl, H0⟩ := hcut
    clear IO IN IP G1 N1 D1 Z1 hsb RB1 I1
    generalize hS1 : lim1 S s w e (atV ay ax by_ bx e) (e) = S1 at *
    have HS1 := Lib.hid hS1
    clear hS1

    go_wp2_with fail
    refine (HR2.out _).mono ?_
    rintro e' w1 ⟨rfl, hb⟩
    have G0 := Lib.hid (H0.out.later hb)
    clear hb H0 HR2
    have G1 := Lib.hid (G0.out.later (below_al w1 (.cells #[.int .i64 (rN s w l), .int .i64 (rD s w l), .int .i64 0, .int .i64 0] 51)))
    have N1 := Lib.hid (Pl.new w1 (rN s w l) (rD s w l) 0 0 51)
    have D1 := Lib.hid (LW.dis HK.out G0.out)
    have Z1 := Lib.hid (G0.out.2.2.2.2)
    clear G0
    have IO := Lib.hid (fun h => lim2_out (S := S1) (s := s) (w := w) (e := l) (X := atV ay ax by_ bx l) (Y := l) h)
    have IN := Lib.hid (fun h g => lim2_new (S := S1) (s := s) (w := w) (e := l) (X := atV ay ax by_ bx l) (Y := l) h g)
    have IP := Lib.hid (fun h g => lim2_old (S := S1) (s := s) (w := w) (e := l) (X := atV ay ax by_ bx l) (Y := l) h g)
    go_upto_if 74 with fail
    generalize hu : w1.alloc (.cells #[.int .i64 (rN s w l), .int .i64 (rD s w l), .int .i64 0, .int .i64 0] 51) = u at *
    clear hu
    generalize hnb : w1.heap.size = nb at *
    clear hnb
    generalize hrn : rN s w l = rn at *
    generalize hrd : rD s w l = rd at *
    generalize hrb : ins s w l = rb at *
    clear hrn hrd hrb

    obtain ⟨⟨⟨o0, yo⟩, ⟨f0, f1, f2, f3, yf⟩, ⟨e0, e1, e2, e3, ye⟩⟩, -, -, -, -⟩ := G1.out
    obtain ⟨m0, m1, m2, m3, ym⟩ := N1.out
    cases rb
    · have E := Lib.hid (IO.out rfl)
      clear IO IN IP
      cases hok : S1.ok
      · rw [hok] at o0
        have PB := Lib.hid (LW.eq (LW.putb G1.out HK.out (b := false) (c := S1.ok && decide (0 < rn)) (by rw [hok]; rfl)) E.out)
        clear hok G1 N1 E
        go_wp2
        go_end0
        exact ⟨rfl, by rw [HS1.out]; exact PB.out.1, PB.out.2.2.2.1⟩
      · rw [hok] at o0
        have PB := Lib.hid (LW.eq (LW.putb G1.out HK.out (b := decide (0 < rn)) (c := S1.ok && decide (0 < rn)) (by rw [hok]; rfl)) E.out)
        clear hok G1 N1 E
        go_wp2
        go_end0
        exact ⟨rfl, by rw [HS1.out]; exact PB.out.1, PB.out.2.2.2.1⟩
    · have IN2 := Lib.hid (IN.out rfl)
      have IP2 := Lib.hid (IP.out rfl)
      clear IO IN IP
      have LS := Lib.hid (fun v => less_any rn rd 0 0 S1.n2 S1.d2 S1.x2 S1.y2 v RB2.out.1 RB2.out.2 SB2.out.2.2.1 SB2.out.2.2.2)
      go_wp2_with fail
      refine (LS.out _).mono ?_
      rintro e' w2 ⟨rfl, hb⟩
      have G2 := Lib.hid (G1.out.later hb)
      have N2 := Lib.hid (N1.out.later hb)
      clear hb G1 N1 LS o0 yo f0 f1 f2 f3 yf e0 e1 e2 e3 ye m0 m1 m2 m3 ym
      cases hd : decide (rn * S1.d2 < S1.n2 * rd)
      · have E := Lib.hid (IP2.out hd)
        clear IP2 IN2 hd
        have PB := Lib.hid (LW.eq G2.out E.out)
        clear G2 N2 E
        go_wp2
        go_end0
        exact ⟨rfl, by rw [HS1.out]; exact PB.out.1, PB.out.2.2.2.1⟩
      · have E := Lib.hid (IN2.out hd)
        clear IP2 IN2 hd
        go_wp2_with fail
        refine (ptY_any ax ay bx by_ l a b w2 I2.out G2.out.2.1 G2.out.2.2.1).mono ?_
        rintro e' w3 ⟨rfl, hb⟩
        have G3 := Lib.hid (G2.out.later hb)
        have N3 := Lib.hid (N2.out.later hb)
        clear hb G2 N2
        obtain ⟨⟨⟨o0, yo⟩, ⟨f0, f1, f2, f3, yf⟩, ⟨e0, e1, e2, e3, ye⟩⟩, -, -, -, -⟩ := G3.out
        obtain ⟨m0, m1, m2, m3, ym⟩ := N3.out
        have PB := Lib.hid (LW.eq (LW.put2 G3.out HK.out D1.out rn rd (atV ay ax by_ bx l) (l)) E.out)
        clear G3 N3 E
        have q1 := D1.out.2.2.1
        have q2 := Ne.symm q1
        go_wp2
        go_end0
        exact ⟨rfl, by rw [HS1.out]; exact PB.out.1, PB.out.2.2.2.1⟩

end Go.Proofs.Ytpdiojndfckmfaa
