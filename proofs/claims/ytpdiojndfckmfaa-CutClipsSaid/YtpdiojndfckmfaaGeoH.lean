/- The contracts of geom.before and shared. -/
import Derived.Test.YtpdiojndfckmfaaGeoC
import Derived.Test.YtpdiojndfckmfaaCutBase
import Derived.Deep.DeepCutAuto
namespace Go.Proofs.Ytpdiojndfckmfaa
open Go.RowKit
open Num Geo
set_option linter.unusedVariables false
theorem bf_cases (ax ay bx by_ : Int) : (ax < bx ∧ bf ax ay bx by_ = true ∧ decide (ax < bx) = true) ∨ (ax = bx ∧ decide (ax < bx) = false ∧ bf ax ay bx by_ = decide (ay < by_)) ∨ (bx < ax ∧ decide (ax < bx) = false ∧ (ax == bx) = false ∧ bf ax ay bx by_ = false) := by
  unfold bf
  rcases Int.lt_trichotomy ax bx with h | h | h
  · exact .inl ⟨h, by rw [decide_eq_true h]; rfl, decide_eq_true h⟩
  · subst h; exact .inr (.inl ⟨rfl, by simp, by simp⟩)
  · refine .inr (.inr ⟨h, by simp; omega, by simp; omega, ?_⟩)
    rw [decide_eq_false (show ¬ ax < bx by omega), decide_eq_false (show ¬ ax = bx by omega)]; rfl
set_option maxHeartbeats 1000000 in
theorem before_any (ax ay bx by_ : Int) (w : World) :
    Calls Try.prog 68 #[.agg #[.int .i64 ax, .int .i64 ay], .agg #[.int .i64 bx, .int .i64 by_]] w fun e w' => e = .returned (.bool (bf ax ay bx by_)) ∧ Below w.heap.size w w' := by
  rcases bf_cases ax ay bx by_ with ⟨h, hv, d⟩ | ⟨rfl, d, hv⟩ | ⟨h, d, d', hv⟩
  all_goals
    rw [hv]
    clear hv
    go_enter Try.func68, Try.ntmps68
    go_wp2
    go_ret
    exact ⟨rfl, by go_grown⟩
/-- a box holds a point, and may be written -/
def Bx (v : World) (b : Nat) (x y : Int) : Prop := v.cell? ⟨b, 0, none⟩ = some (.int .i64 x) ∧ v.cell? ⟨b, 1, none⟩ = some (.int .i64 y) ∧ ∀ o, v.frozen? ⟨b, o, none⟩ = false
theorem Bx.lt {v : World} {b : Nat} {x y : Int} (h : Bx v b x y) : b < v.heap.size := cell_lt h.1
theorem Bx.later {v u : World} {b : Nat} {x y : Int} (h : Bx v b x y) (hb : Below v.heap.size v u) : Bx u b x y :=
  ⟨cell_on h.1 hb, cell_on h.2.1 hb, fun o => (hb.frozen (p := ⟨b, o, none⟩) h.lt).trans (h.2.2 o)⟩
theorem Bx.new (u : World) (x y : Int) (t : TypeId) : Bx (u.alloc (.cells #[.int .i64 x, .int .i64 y] t)) u.heap.size x y :=
  ⟨(cell_new2 u).1, (cell_new2 u).2, fun o => by simp⟩
theorem Bx.same {v : World} {b : Nat} {x y : Int} (h : Bx v b x y) (x' y' : Int) : Bx ((v.setCell ⟨b, 0, none⟩ (.int .i64 x')).setCell ⟨b, 1, none⟩ (.int .i64 y')) b x' y' := by
  have n : (⟨b, 0, none⟩ : Addr) ≠ ⟨b, 1, none⟩ := by simp
  refine ⟨?_, ?_, fun o => by simp [h.2.2 o]⟩
  · rw [World.cell?_setCell_other _ _ _ _ n.symm]; exact World.cell?_setCell_same _ _ _ h.1
  · exact World.cell?_setCell_same _ _ _ (by rw [World.cell?_setCell_other _ _ _ _ n]; exact h.2.1)
theorem Bx.other {v : World} {b c o : Nat} {x y : Int} (h : Bx v b x y) (hn : b ≠ c) (z : Value) : Bx (v.setCell ⟨c, o, none⟩ z) b x y := by
  have n : ∀ i, (⟨c, o, none⟩ : Addr) ≠ ⟨b, i, none⟩ := by intro i hx; injection hx with h1 h2; exact hn h1.symm
  refine ⟨?_, ?_, fun o => by simp [h.2.2 o]⟩
  · rw [World.cell?_setCell_other _ _ _ _ (n 0)]; exact h.1
  · rw [World.cell?_setCell_other _ _ _ _ (n 1)]; exact h.2.1
/-- four boxes hold these points -/
def M4 (w v : World) (ax ay bx by_ cx cy dx dy : Int) : Prop :=
  Bx v w.heap.size ax ay ∧ Bx v (w.heap.size + 1) bx by_ ∧ Bx v (w.heap.size + 1 + 1) cx cy ∧ Bx v (w.heap.size + 1 + 1 + 1) dx dy ∧ Below w.heap.size w v
theorem M4.later {w v u : World} {ax ay bx by_ cx cy dx dy : Int} (h : M4 w v ax ay bx by_ cx cy dx dy) (hb : Below v.heap.size v u) : M4 w u ax ay bx by_ cx cy dx dy :=
  ⟨h.1.later hb, h.2.1.later hb, h.2.2.1.later hb, h.2.2.2.1.later hb, below_on h.2.2.2.2 hb⟩
theorem M4.swap1 {w u : World} {ax ay bx by_ cx cy dx dy : Int} (h : M4 w u ax ay bx by_ cx cy dx dy) :
    M4 w ((((u.setCell ⟨w.heap.size, 0, none⟩ (.int .i64 bx)).setCell ⟨w.heap.size, 1, none⟩ (.int .i64 by_)).setCell ⟨w.heap.size + 1, 0, none⟩ (.int .i64 ax)).setCell ⟨w.heap.size + 1, 1, none⟩ (.int .i64 ay)) bx by_ ax ay cx cy dx dy := by
  obtain ⟨h0, h1, h2, h3, g⟩ := h
  refine ⟨?_, ?_, ?_, ?_, ?_⟩
  · exact ((h0.same bx by_).other (by omega) _).other (by omega) _
  · exact ((h1.other (by omega) _).other (by omega) _).same ax ay
  · exact (((h2.other (by omega) _).other (by omega) _).other (by omega) _).other (by omega) _
  · exact (((h3.other (by omega) _).other (by omega) _).other (by omega) _).other (by omega) _
  · exact (((g.setCell (Nat.le_refl _) _).setCell (Nat.le_refl _) _).setCell (Nat.le_succ _) _).setCell (Nat.le_succ _) _
theorem M4.swap2 {w u : World} {ax ay bx by_ cx cy dx dy : Int} (h : M4 w u ax ay bx by_ cx cy dx dy) :
    M4 w ((((u.setCell ⟨w.heap.size + 1 + 1, 0, none⟩ (.int .i64 dx)).setCell ⟨w.heap.size + 1 + 1, 1, none⟩ (.int .i64 dy)).setCell ⟨w.heap.size + 1 + 1 + 1, 0, none⟩ (.int .i64 cx)).setCell ⟨w.heap.size + 1 + 1 + 1, 1, none⟩ (.int .i64 cy)) ax ay bx by_ dx dy cx cy := by
  obtain ⟨h0, h1, h2, h3, g⟩ := h
  have l2 : w.heap.size ≤ w.heap.size + 1 + 1 := by omega
  have l3 : w.heap.size ≤ w.heap.size + 1 + 1 + 1 := by omega
  refine ⟨?_, ?_, ?_, ?_, ?_⟩
  · exact (((h0.other (by omega) _).other (by omega) _).other (by omega) _).other (by omega) _
  · exact (((h1.other (by omega) _).other (by omega) _).other (by omega) _).other (by omega) _
  · exact ((h2.same dx dy).other (by omega) _).other (by omega) _
  · exact ((h3.other (by omega) _).other (by omega) _).same cx cy
  · exact (((g.setCell l2 _).setCell l2 _).setCell l3 _).setCell l3 _
/-- how many points two segments of one line have in common -/
def shF (ax ay bx by_ cx cy dx dy : Int) : Int :=
  let p := if bf bx by_ ax ay = true then (bx, by_, ax, ay) else (ax, ay, bx, by_)
  let q := if bf dx dy cx cy = true then (dx, dy, cx, cy) else (cx, cy, dx, dy)
  let f := if bf p.1 p.2.1 q.1 q.2.1 = true then (q.1, q.2.1) else (p.1, p.2.1)
  let l := if bf q.2.2.1 q.2.2.2 p.2.2.1 p.2.2.2 = true then (q.2.2.1, q.2.2.2) else (p.2.2.1, p.2.2.2)
  if f.1 = l.1 ∧ f.2 = l.2 then 1 else if bf f.1 f.2 l.1 l.2 = true then 2 else 0
theorem shF_val {ax ay bx by_ cx cy dx dy p0 p1 q0 q1 r0 r1 s0 s1 f0 f1 l0 l1 : Int} (hp : (p0, p1, q0, q1) = if bf bx by_ ax ay = true then (bx, by_, ax, ay) else (ax, ay, bx, by_)) (hq : (r0, r1, s0, s1) = if bf dx dy cx cy = true then (dx, dy, cx, cy) else (cx, cy, dx, dy))
    (hf : (f0, f1) = if bf p0 p1 r0 r1 = true then (r0, r1) else (p0, p1)) (hl : (l0, l1) = if bf s0 s1 q0 q1 = true then (s0, s1) else (q0, q1)) :
    shF ax ay bx by_ cx cy dx dy = if f0 = l0 ∧ f1 = l1 then 1 else if bf f0 f1 l0 l1 = true then 2 else 0 := by
  unfold shF
  rw [← hp, ← hq]
  simp only
  rw [← hf, ← hl]
/-- .. and two more boxes -/
def M6 (w v : World) (ax ay bx by_ cx cy dx dy : Int) (F L : Nat) (f0 f1 l0 l1 : Int) : Prop :=
  M4 w v ax ay bx by_ cx cy dx dy ∧ Bx v F f0 f1 ∧ Bx v L l0 l1 ∧ F ≠ L ∧ w.heap.size + 1 + 1 + 1 < F ∧ w.heap.size + 1 + 1 + 1 < L
theorem M6.later {w v u : World} {ax ay bx by_ cx cy dx dy : Int} {F L : Nat} {f0 f1 l0 l1 : Int} (h : M6 w v ax ay bx by_ cx cy dx dy F L f0 f1 l0 l1) (hb : Below v.heap.size v u) : M6 w u ax ay bx by_ cx cy dx dy F L f0 f1 l0 l1 :=
  ⟨h.1.later hb, h.2.1.later hb, h.2.2.1.later hb, h.2.2.2⟩
theorem M4.other {w u : World} {ax ay bx by_ cx cy dx dy : Int} (h : M4 w u ax ay bx by_ cx cy dx dy) {F : Nat} (hF : w.heap.size + 1 + 1 + 1 < F) (o : Nat) (z : Value) : M4 w (u.setCell ⟨F, o, none⟩ z) ax ay bx by_ cx cy dx dy :=
  ⟨h.1.other (by omega) z, h.2.1.other (by omega) z, h.2.2.1.other (by omega) z, h.2.2.2.1.other (by omega) z, h.2.2.2.2.setCell (show w.heap.size ≤ F by omega) z⟩
theorem M6.setF {w u : World} {ax ay bx by_ cx cy dx dy : Int} {F L : Nat} {f0 f1 l0 l1 : Int} (h : M6 w u ax ay bx by_ cx cy dx dy F L f0 f1 l0 l1) (x y : Int) :
    M6 w ((u.setCell ⟨F, 0, none⟩ (.int .i64 x)).setCell ⟨F, 1, none⟩ (.int .i64 y)) ax ay bx by_ cx cy dx dy F L x y l0 l1 := by
  obtain ⟨h1, h2, h3, h4, h5, h6⟩ := h
  exact ⟨(h1.other h5 _ _).other h5 _ _, h2.same x y, (h3.other (Ne.symm h4) _).other (Ne.symm h4) _, h4, h5, h6⟩
theorem M6.setL {w u : World} {ax ay bx by_ cx cy dx dy : Int} {F L : Nat} {f0 f1 l0 l1 : Int} (h : M6 w u ax ay bx by_ cx cy dx dy F L f0 f1 l0 l1) (x y : Int) :
    M6 w ((u.setCell ⟨L, 0, none⟩ (.int .i64 x)).setCell ⟨L, 1, none⟩ (.int .i64 y)) ax ay bx by_ cx cy dx dy F L f0 f1 x y := by
  obtain ⟨h1, h2, h3, h4, h5, h6⟩ := h
  exact ⟨(h1.other h6 _ _).other h6 _ _, (h2.other h4 _).other h4 _, h3.same x y, h4, h5, h6⟩
theorem M4.lt {w u : World} {ax ay bx by_ cx cy dx dy : Int} (h : M4 w u ax ay bx by_ cx cy dx dy) : w.heap.size + 1 + 1 + 1 < u.heap.size := h.2.2.2.1.lt
theorem M4.two {w u : World} {ax ay bx by_ cx cy dx dy : Int} (h : M4 w u ax ay bx by_ cx cy dx dy) (x y z t : Int) (ty : TypeId) :
    M6 w ((u.alloc (.cells #[.int .i64 x, .int .i64 y] ty)).alloc (.cells #[.int .i64 z, .int .i64 t] ty)).drew ax ay bx by_ cx cy dx dy u.heap.size (u.heap.size + 1) x y z t ∧
    M6 w ((u.alloc (.cells #[.int .i64 z, .int .i64 t] ty)).alloc (.cells #[.int .i64 x, .int .i64 y] ty)).drew ax ay bx by_ cx cy dx dy (u.heap.size + 1) u.heap.size x y z t := by
  have hl := h.lt
  have e : ∀ a b : Int, (u.alloc (.cells #[.int .i64 a, .int .i64 b] ty)).heap.size = u.heap.size + 1 := by intro a b; simp
  have dr : ∀ v : World, Below v.heap.size v v.drew := fun v => (Below.refl _ _).drew
  have k1 : ∀ a b c d : Int, Bx ((u.alloc (.cells #[.int .i64 a, .int .i64 b] ty)).alloc (.cells #[.int .i64 c, .int .i64 d] ty)).drew u.heap.size a b := fun a b c d => ((Bx.new u a b ty).later (below_al _ _)).later (dr _)
  have k2 : ∀ a b c d : Int, Bx ((u.alloc (.cells #[.int .i64 a, .int .i64 b] ty)).alloc (.cells #[.int .i64 c, .int .i64 d] ty)).drew (u.heap.size + 1) c d := fun a b c d => by
    rw [← e a b]; exact (Bx.new _ c d ty).later (dr _)
  exact ⟨⟨((h.later (below_al _ _)).later (below_al _ _)).later (dr _), k1 _ _ _ _, k2 _ _ _ _, by omega, hl, by omega⟩,
    ⟨((h.later (below_al _ _)).later (below_al _ _)).later (dr _), k2 _ _ _ _, k1 _ _ _ _, by omega, by omega, hl⟩⟩
set_option maxHeartbeats 4000000 in
theorem shared_any (ax ay bx by_ cx cy dx dy : Int) (w : World) :
    Calls Try.prog 52 #[.agg #[.int .i64 ax, .int .i64 ay], .agg #[.int .i64 bx, .int .i64 by_], .agg #[.int .i64 cx, .int .i64 cy], .agg #[.int .i64 dx, .int .i64 dy]] w fun e w' => e = .returned (.int .i64 (shF ax ay bx by_ cx cy dx dy)) ∧ Below w.heap.size w w' := by
  obtain ⟨⟨p0, p1, q0, q1⟩, hp⟩ : ∃ t : Int × Int × Int × Int, t = if bf bx by_ ax ay = true then (bx, by_, ax, ay) else (ax, ay, bx, by_) := ⟨_, rfl⟩
  obtain ⟨⟨r0, r1, s0, s1⟩, hq⟩ : ∃ t : Int × Int × Int × Int, t = if bf dx dy cx cy = true then (dx, dy, cx, cy) else (cx, cy, dx, dy) := ⟨_, rfl⟩
  obtain ⟨⟨f0, f1⟩, hf⟩ : ∃ t : Int × Int, t = if bf p0 p1 r0 r1 = true then (r0, r1) else (p0, p1) := ⟨_, rfl⟩
  obtain ⟨⟨l0, l1⟩, hl⟩ : ∃ t : Int × Int, t = if bf s0 s1 q0 q1 = true then (s0, s1) else (q0, q1) := ⟨_, rfl⟩
  rw [shF_val hp hq hf hl]
  obtain ⟨R, hR⟩ : ∃ R : Int, (if f0 = l0 ∧ f1 = l1 then 1 else if bf f0 f1 l0 l1 = true then 2 else 0) = R := ⟨_, rfl⟩
  rw [hR]
  have HR := Lib.hid hR
  have HP := Lib.hid hp
  have HQ := Lib.hid hq
  have HFF := Lib.hid hf
  have HLL := Lib.hid hl
  clear hR hp hq hf hl
  go_enter Try.func52, Try.ntmps52
  go_wp2_with fail
  refine (before_any bx by_ ax ay _).mono ?_
  rintro e w1 ⟨rfl, hb1⟩
  have HB : Hid (M4 w w1 ax ay bx by_ cx cy dx dy) := by
    apply Lib.hid
    have e1 : (w.alloc (.cells #[.int .i64 ax, .int .i64 ay] 23)).heap.size = w.heap.size + 1 := by simp
    have e2 : ((w.alloc (.cells #[.int .i64 ax, .int .i64 ay] 23)).alloc (.cells #[.int .i64 bx, .int .i64 by_] 23)).heap.size = w.heap.size + 1 + 1 := by simp
    have e3 : (((w.alloc (.cells #[.int .i64 ax, .int .i64 ay] 23)).alloc (.cells #[.int .i64 bx, .int .i64 by_] 23)).alloc (.cells #[.int .i64 cx, .int .i64 cy] 23)).heap.size = w.heap.size + 1 + 1 + 1 := by simp
    refine ⟨((((Bx.new w ax ay _).later (below_al _ _)).later (below_al _ _)).later (below_al _ _)).later hb1, ?_, ?_, ?_, below_on (B4_has w ax ay bx by_ cx cy dx dy).2.2.2.2.2.2.2.2 hb1⟩
    · rw [← e1]; exact (((Bx.new _ bx by_ _).later (below_al _ _)).later (below_al _ _)).later hb1
    · rw [← e2]; exact ((Bx.new _ cx cy _).later (below_al _ _)).later hb1
    · rw [← e3]; exact (Bx.new _ dx dy _).later hb1
  clear hb1
  obtain ⟨⟨c0, c1, z0⟩, ⟨c2, c3, z1⟩, ⟨c4, c5, z2⟩, ⟨c6, c7, z3⟩, hg⟩ := HB.out
  clear hg
  go_upto_if 13 with fail
  go_cut [] (fun wc => Hid (M4 w wc p0 p1 q0 q1 cx cy dx dy))
  case first =>
    cases h1 : bf bx by_ ax ay
    · have h := HP.out
      rw [h1] at h
      simp only [Bool.false_eq_true, if_false, Prod.mk.injEq] at h
      obtain ⟨rfl, rfl, rfl, rfl⟩ := h
      go_wp2_with fail
      go_meet
      exact HB
    · have h := HP.out
      rw [h1] at h
      simp only [if_true, Prod.mk.injEq] at h
      obtain ⟨rfl, rfl, rfl, rfl⟩ := h
      go_wp2_with fail
      go_meet
      exact Lib.hid HB.out.swap1
  case rest =>
  clear HB c0 c1 c2 c3 c4 c5 c6 c7 z0 z1 z2 z3
  obtain ⟨⟨c0, c1, z0⟩, ⟨c2, c3, z1⟩, ⟨c4, c5, z2⟩, ⟨c6, c7, z3⟩, hg⟩ := hcut.out
  clear hg
  go_wp2_with fail
  refine (before_any dx dy cx cy _).mono ?_
  rintro e w2 ⟨rfl, hb2⟩
  have HB := Lib.hid (hcut.out.later hb2)
  clear hcut hb2 c0 c1 c2 c3 c4 c5 c6 c7 z0 z1 z2 z3
  obtain ⟨⟨c0, c1, z0⟩, ⟨c2, c3, z1⟩, ⟨c4, c5, z2⟩, ⟨c6, c7, z3⟩, hg⟩ := HB.out
  clear hg wc
  go_upto_if 18 with fail
  go_cut [] (fun wc => Hid (M4 w wc p0 p1 q0 q1 r0 r1 s0 s1))
  case first =>
    cases h1 : bf dx dy cx cy
    · have h := HQ.out
      rw [h1] at h
      simp only [Bool.false_eq_true, if_false, Prod.mk.injEq] at h
      obtain ⟨rfl, rfl, rfl, rfl⟩ := h
      go_wp2_with fail
      go_meet
      exact HB
    · have h := HQ.out
      rw [h1] at h
      simp only [if_true, Prod.mk.injEq] at h
      obtain ⟨rfl, rfl, rfl, rfl⟩ := h
      go_wp2_with fail
      go_meet
      exact Lib.hid HB.out.swap2
  case rest =>
  clear HB c0 c1 c2 c3 c4 c5 c6 c7 z0 z1 z2 z3 HP HQ
  obtain ⟨⟨c0, c1, z0⟩, ⟨c2, c3, z1⟩, ⟨c4, c5, z2⟩, ⟨c6, c7, z3⟩, hg⟩ := hcut.out
  have HB := hcut
  have n0 := cell_lt c0
  have n1 := cell_lt c2
  have n2 := cell_lt c4
  have n3 := cell_lt c6
  clear hg hcut
  generalize wc = v at *
  go_upto_region 5 with fail
  go_cut [9, 10] (fun x y wc => ∃ F L : Nat, x = .pointer (some ⟨F, 0, none⟩) ∧ y = .pointer (some ⟨L, 0, none⟩) ∧ Hid (M6 w wc p0 p1 q0 q1 r0 r1 s0 s1 F L p0 p1 q0 q1))
  case first =>
    go_region
    all_goals
      go_wp2_with fail
      go_meet
      first
        | exact ⟨_, _, rfl, rfl, Lib.hid (HB.out.two p0 p1 q0 q1 _).1⟩
        | exact ⟨_, _, rfl, rfl, Lib.hid (HB.out.two p0 p1 q0 q1 _).2⟩
  case rest =>
  clear HB c0 c1 c2 c3 c4 c5 c6 c7 z0 z1 z2 z3 n0 n1 n2 n3
  obtain ⟨F, L, rfl, rfl, HM⟩ := hcut
  obtain ⟨⟨-, -, ⟨c4, c5, z2⟩, ⟨c6, c7, z3⟩, -⟩, ⟨d0, d1, y0⟩, ⟨d2, d3, y1⟩, hFL, hF, hL⟩ := HM.out
  go_wp2_with fail
  refine (before_any p0 p1 r0 r1 _).mono ?_
  rintro e w3 ⟨rfl, hb3⟩
  have HB := Lib.hid (HM.out.later hb3)
  clear HM hb3 c4 c5 c6 c7 z2 z3 d0 d1 d2 d3 y0 y1 hFL hF hL
  obtain ⟨⟨-, -, ⟨c4, c5, z2⟩, ⟨c6, c7, z3⟩, -⟩, ⟨d0, d1, y0⟩, ⟨d2, d3, y1⟩, hFL, hF, hL⟩ := HB.out
  clear wc v
  go_upto_if 25 with fail
  go_cut [] (fun wc => Hid (M6 w wc p0 p1 q0 q1 r0 r1 s0 s1 F L f0 f1 q0 q1))
  case first =>
    cases h1 : bf p0 p1 r0 r1
    · have h := HFF.out
      rw [h1] at h
      simp only [Bool.false_eq_true, if_false, Prod.mk.injEq] at h
      obtain ⟨rfl, rfl⟩ := h
      go_wp2_with fail
      go_meet
      exact HB
    · have h := HFF.out
      rw [h1] at h
      simp only [if_true, Prod.mk.injEq] at h
      obtain ⟨rfl, rfl⟩ := h
      go_wp2_with fail
      go_meet
      exact Lib.hid (HB.out.setF _ _)
  case rest =>
  clear HB c4 c5 c6 c7 z2 z3 d0 d1 d2 d3 y0 y1 hFL hF hL HFF
  obtain ⟨⟨-, -, ⟨c4, c5, z2⟩, ⟨c6, c7, z3⟩, -⟩, ⟨d0, d1, y0⟩, ⟨d2, d3, y1⟩, hFL, hF, hL⟩ := hcut.out
  go_wp2_with fail
  refine (before_any s0 s1 q0 q1 _).mono ?_
  rintro e w4 ⟨rfl, hb4⟩
  have HB := Lib.hid (hcut.out.later hb4)
  clear hcut hb4 c4 c5 c6 c7 z2 z3 d0 d1 d2 d3 y0 y1 hFL hF hL
  obtain ⟨⟨-, -, ⟨c4, c5, z2⟩, ⟨c6, c7, z3⟩, -⟩, ⟨d0, d1, y0⟩, ⟨d2, d3, y1⟩, hFL, hF, hL⟩ := HB.out
  clear wc
  go_upto_if 29 with fail
  go_cut [] (fun wc => Hid (M6 w wc p0 p1 q0 q1 r0 r1 s0 s1 F L f0 f1 l0 l1))
  case first =>
    cases h1 : bf s0 s1 q0 q1
    · have h := HLL.out
      rw [h1] at h
      simp only [Bool.false_eq_true, if_false, Prod.mk.injEq] at h
      obtain ⟨rfl, rfl⟩ := h
      go_wp2_with fail
      go_meet
      exact HB
    · have h := HLL.out
      rw [h1] at h
      simp only [if_true, Prod.mk.injEq] at h
      obtain ⟨rfl, rfl⟩ := h
      go_wp2_with fail
      go_meet
      exact Lib.hid (HB.out.setL _ _)
  case rest =>
  clear HB c4 c5 c6 c7 z2 z3 d0 d1 d2 d3 y0 y1 hFL hF hL HLL
  obtain ⟨-, ⟨d0, d1, y0⟩, ⟨d2, d3, y1⟩, hFL, hF, hL⟩ := hcut.out
  have HG := Lib.hid hcut.out.1.2.2.2.2
  clear hcut
  by_cases e1 : f0 = l0
  · by_cases e2 : f1 = l1
    · subst e1
      subst e2
      have HR1 := Lib.hid ((if_pos ⟨rfl, rfl⟩).symm.trans HR.out)
      clear HR
      go_wp2
      go_ret
      exact ⟨ret_int HR1.out, HG.out⟩
    · subst e1
      have HR1 := Lib.hid ((if_neg (fun h => e2 h.2)).symm.trans HR.out)
      clear HR
      go_wp2_with fail
      refine (before_any f0 f1 f0 l1 _).mono ?_
      rintro e w5 ⟨rfl, hb5⟩
      have HG2 := Lib.hid (below_on HG.out hb5)
      clear hb5
      cases hx : bf f0 f1 f0 l1
      · have HR2 := Lib.hid ((by rw [hx]; rfl : (0 : Int) = _).trans HR1.out)
        go_wp2
        go_ret
        exact ⟨ret_int HR2.out, HG2.out⟩
      · have HR2 := Lib.hid ((by rw [hx]; rfl : (2 : Int) = _).trans HR1.out)
        go_wp2
        go_ret
        exact ⟨ret_int HR2.out, HG2.out⟩
  · have HR1 := Lib.hid ((if_neg (fun h => e1 h.1)).symm.trans HR.out)
    clear HR
    go_wp2_with fail
    refine (before_any f0 f1 l0 l1 _).mono ?_
    rintro e w5 ⟨rfl, hb5⟩
    have HG2 := Lib.hid (below_on HG.out hb5)
    clear hb5
    cases hx : bf f0 f1 l0 l1
    · have HR2 := Lib.hid ((by rw [hx]; rfl : (0 : Int) = _).trans HR1.out)
      go_wp2
      go_ret
      exact ⟨ret_int HR2.out, HG2.out⟩
    · have HR2 := Lib.hid ((by rw [hx]; rfl : (2 : Int) = _).trans HR1.out)
      go_wp2
      go_ret
      exact ⟨ret_int HR2.out, HG2.out⟩
end Go.Proofs.Ytpdiojndfckmfaa
