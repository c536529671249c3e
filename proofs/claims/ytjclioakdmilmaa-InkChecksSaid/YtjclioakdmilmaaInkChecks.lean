/- InkChecks: the walk. -/
import Derived.Test.YtjclioakdmilmaaInkP
import Derived.Test.YtjclioakdmilmaaFreeG
namespace Go.Proofs.Ytjclioakdmilmaa
open Go.RowKit
open Num Ink
set_option linter.unusedVariables false
/-- what the operations of the law's expression yield -/
def RC (dv pv qv : Value) (E : Int) (C : List (Int × Int)) : Nat → Value → World → Prop
  | 0 => fun v _ => v = dv
  | 1 => fun v _ => v = .int .i64 E
  | 2 => fun v _ => v = dv
  | 3 => fun v _ => v = .int .i64 E
  | 4 => fun v _ => v = .bool true
  | 5 => fun v _ => v = .bool true
  | 6 => fun v _ => v = pv
  | 7 => fun v _ => v = qv
  | 8 => fun v w => ∃ a c, v = .slice a C.length c ∧ Pts w w.heap.size a C
  | 9 => fun v _ => v = pv
  | 10 => fun v _ => v = qv
  | 11 => fun v w => ∃ a c, v = .slice a C.length c ∧ Pts w w.heap.size a C
  | _ => fun v _ => v = .bool true
theorem RC.stab (dv pv qv : Value) (E : Int) (C : List (Int × Int)) (j : Nat) (v : Value) (w w' : World) (h : RC dv pv qv E C j v w) (hb : Below w.heap.size w w') : RC dv pv qv E C j v w' := by
  match j, h with
  | 0, h => exact h
  | 1, h => exact h
  | 2, h => exact h
  | 3, h => exact h
  | 4, h => exact h
  | 5, h => exact h
  | 6, h => exact h
  | 7, h => exact h
  | 8, ⟨a, c, h1, h2⟩ => exact ⟨a, c, h1, h2.later hb⟩
  | 9, h => exact h
  | 10, h => exact h
  | 11, ⟨a, c, h1, h2⟩ => exact ⟨a, c, h1, h2.later hb⟩
  | n + 12, h => exact h
set_option maxRecDepth 100000 in
set_option maxHeartbeats 16000000 in
theorem checks_law (k x0 y0 x1 y1 : Int) (l : List (Int × Int)) (pa : Option Addr) (pc : Nat) (a b c d ax ay bx by_ : Int) (w : World) (hk : -9223372036854775808 ≤ k ∧ k ≤ 9223372036854775807) (hp : Pts w w.heap.size pa l) :
    Calls Try.prog 3 #[.agg #[.int .i64 k, .int .i64 x0, .int .i64 y0, .int .i64 x1, .int .i64 y1, .slice pa l.length pc, .int .i64 a, .int .i64 b, .int .i64 c, .int .i64 d], .agg #[.int .i64 ax, .int .i64 ay], .agg #[.int .i64 bx, .int .i64 by_]] w fun e u => e = .returned (.bool true) ∧ Below w.heap.size w u := by
  have HP := Lib.hid hp
  have HK := Lib.hid hk
  clear hp hk
  have b1 := below_al w (.cells #[.int .i64 k, .int .i64 x0, .int .i64 y0, .int .i64 x1, .int .i64 y1, .slice pa l.length pc, .int .i64 a, .int .i64 b, .int .i64 c, .int .i64 d] 27)
  have d1 := Dw.new w k x0 y0 x1 y1 (.slice pa l.length pc) a b c d 27
  have s1 : (w.alloc (.cells #[.int .i64 k, .int .i64 x0, .int .i64 y0, .int .i64 x1, .int .i64 y1, .slice pa l.length pc, .int .i64 a, .int .i64 b, .int .i64 c, .int .i64 d] 27)).heap.size = w.heap.size + 1 := by simp
  go_enter Try.func3, Try.ntmps3
  go_upto_region 1 with fail
  generalize w.alloc (.cells #[.int .i64 k, .int .i64 x0, .int .i64 y0, .int .i64 x1, .int .i64 y1, .slice pa l.length pc, .int .i64 a, .int .i64 b, .int .i64 c, .int .i64 d] 27) = v1 at *
  have b2 := below_al v1 (.cells #[.int .i64 ax, .int .i64 ay] 29)
  have k2 := Bx.new v1 ax ay 29
  have s2 : (v1.alloc (.cells #[.int .i64 ax, .int .i64 ay] 29)).heap.size = v1.heap.size + 1 := by simp
  generalize v1.alloc (.cells #[.int .i64 ax, .int .i64 ay] 29) = v2 at *
  have b3 := below_al v2 (.cells #[.int .i64 bx, .int .i64 by_] 29)
  have k3 := Bx.new v2 bx by_ 29
  rw [s1] at k2
  rw [s2, s1] at k3
  have D3 := Lib.hid ((d1.later b2).later b3)
  have K2 := Lib.hid (k2.later b3)
  have K3 := Lib.hid k3
  have G3 := Lib.hid (below_on (below_on b1 b2) b3)
  clear b1 b2 b3 d1 s1 s2 k2 k3
  generalize hv3 : v2.alloc (.cells #[.int .i64 bx, .int .i64 by_] 29) = v3 at *
  clear hv3
  generalize hsz : w.heap.size = sz at *
  have HSZ := Lib.hid hsz
  have HP3 : Hid (Pts v3 v3.heap.size pa l) := Lib.hid (by have h1 := HP.out; rw [← hsz] at h1 G3; exact h1.later G3.out)
  clear hsz HP
  have HCL := Lib.hid (cels_le ax ay bx by_)
  generalize hC : cels ax ay bx by_ = C at *
  generalize hE : ckE k x0 y0 x1 y1 l a b c d = E at *
  have HC := Lib.hid hC
  have HE := Lib.hid hE
  clear hC hE
  refine region_freeG (P := Try.prog) [] 17 (RC (.agg #[.int .i64 k, .int .i64 x0, .int .i64 y0, .int .i64 x1, .int .i64 y1, .slice pa l.length pc, .int .i64 a, .int .i64 b, .int .i64 c, .int .i64 d]) (.agg #[.int .i64 ax, .int .i64 ay]) (.agg #[.int .i64 bx, .int .i64 by_]) E C) (RC.stab _ _ _ _ _) (by kernel_rfl) (by kernel_rfl) (fun _ _ _ _ _ h => h) ?hgd (by kernel_rfl) ?hmk ?hfin
  case hgd =>
    intro i hi oo ho j bb hg v u h
    obtain rfl | rfl | rfl | rfl | rfl | rfl | rfl | rfl | rfl | rfl | rfl | rfl | rfl | rfl | rfl | rfl | rfl : i = 0 ∨ i = 1 ∨ i = 2 ∨ i = 3 ∨ i = 4 ∨ i = 5 ∨ i = 6 ∨ i = 7 ∨ i = 8 ∨ i = 9 ∨ i = 10 ∨ i = 11 ∨ i = 12 ∨ i = 13 ∨ i = 14 ∨ i = 15 ∨ i = 16 := by omega
    all_goals (rw [← Option.some.inj ho] at hg)
    all_goals first | (simp at hg; done) | (simp at hg; obtain ⟨rfl, rfl⟩ := hg; exact h)
  case hmk =>
    intro i hi oo ho U v hv hk
    obtain rfl | rfl | rfl | rfl | rfl | rfl | rfl | rfl | rfl | rfl | rfl | rfl | rfl | rfl | rfl | rfl | rfl : i = 0 ∨ i = 1 ∨ i = 2 ∨ i = 3 ∨ i = 4 ∨ i = 5 ∨ i = 6 ∨ i = 7 ∨ i = 8 ∨ i = 9 ∨ i = 10 ∨ i = 11 ∨ i = 12 ∨ i = 13 ∨ i = 14 ∨ i = 15 ∨ i = 16 := by omega
    · obtain rfl := Option.some.inj ho
      clear hk
      obtain ⟨h0, h1, h2, h3, h4, h5, h6, h7, h8, h9⟩ := D3.out.later hv
      simp only [List.take_zero, mks, putsL]
      refine makes_val (x := .agg #[.int .i64 k, .int .i64 x0, .int .i64 y0, .int .i64 x1, .int .i64 y1, .slice pa l.length pc, .int .i64 a, .int .i64 b, .int .i64 c, .int .i64 d]) (u := v) ?_ (Below.refl _ _) rfl
      simp [execOp, go_sem, h0, h1, h2, h3, h4, h5, h6, h7, h8, h9]
    · obtain rfl := Option.some.inj ho
      have e0 : U 0 = _ := hk 0 (by omega) (by kernel_rfl)
      clear hk
      simp only [List.take_succ_cons, List.take_zero, mks, putsL, e0]
      refine makes_of (f := 9) (args := #[.agg #[.int .i64 k, .int .i64 x0, .int .i64 y0, .int .i64 x1, .int .i64 y1, .slice pa l.length pc, .int .i64 a, .int .i64 b, .int .i64 c, .int .i64 d]]) ?_ (icheck_any k x0 y0 x1 y1 l pa pc a b c d v (HP3.out.later hv)) (fun e u h => ⟨_, h.1, h.2, by rw [HE.out]; rfl⟩)
      simp [go_sem]
    · obtain rfl := Option.some.inj ho
      clear hk
      obtain ⟨h0, h1, h2, h3, h4, h5, h6, h7, h8, h9⟩ := D3.out.later hv
      simp only [List.take_succ_cons, List.take_zero, mks, putsL]
      refine makes_val (x := .agg #[.int .i64 k, .int .i64 x0, .int .i64 y0, .int .i64 x1, .int .i64 y1, .slice pa l.length pc, .int .i64 a, .int .i64 b, .int .i64 c, .int .i64 d]) (u := v) ?_ (Below.refl _ _) rfl
      simp [execOp, go_sem, h0, h1, h2, h3, h4, h5, h6, h7, h8, h9]
    · obtain rfl := Option.some.inj ho
      have e2 : U 2 = _ := hk 2 (by omega) (by kernel_rfl)
      clear hk
      simp only [List.take_succ_cons, List.take_zero, mks, putsL, e2]
      refine makes_of (f := 10) (args := #[.agg #[.int .i64 k, .int .i64 x0, .int .i64 y0, .int .i64 x1, .int .i64 y1, .slice pa l.length pc, .int .i64 a, .int .i64 b, .int .i64 c, .int .i64 d]]) ?_ (rcheck_any k x0 y0 x1 y1 l pa pc a b c d v HK.out (HP3.out.later hv)) (fun e u h => ⟨_, h.1, h.2, by rw [HE.out]; rfl⟩)
      simp [go_sem]
    · obtain rfl := Option.some.inj ho
      have e1 : U 1 = _ := hk 1 (by omega) (by kernel_rfl)
      have e3 : U 3 = _ := hk 3 (by omega) (by kernel_rfl)
      clear hk
      simp only [List.take_succ_cons, List.take_zero, mks, putsL, e1, e3]
      refine makes_val (x := .bool true) (u := v) ?_ (Below.refl _ _) rfl
      simp [execOp, go_sem]
    · obtain rfl := Option.some.inj ho
      have e4 : U 4 = _ := hk 4 (by omega) (by kernel_rfl)
      clear hk
      simp only [List.take_succ_cons, List.take_zero, mks, putsL, e4]
      refine makes_val (x := .bool true) (u := v) ?_ (Below.refl _ _) rfl
      simp [execOp, go_sem]
    · obtain ⟨h0, h1, -⟩ := K2.out.later hv
      have key : ∀ A : Act, A.eval (.tmp 4) = .pointer (some ⟨sz + 1, 0, none⟩) → makesUpon Try.prog (RC (.agg #[.int .i64 k, .int .i64 x0, .int .i64 y0, .int .i64 x1, .int .i64 y1, .slice pa l.length pc, .int .i64 a, .int .i64 b, .int .i64 c, .int .i64 d]) (.agg #[.int .i64 ax, .int .i64 ay]) (.agg #[.int .i64 bx, .int .i64 by_]) E C 6) v ((execOp A.eval oo).run Try.prog v) := fun A hA => by
        rw [← Option.some.inj ho]
        refine makes_val (x := .agg #[.int .i64 ax, .int .i64 ay]) (u := v) ?_ (Below.refl _ _) rfl
        simp only [execOp, hA]
        simp [go_sem, h0, h1]
      clear hk ho
      simp only [List.take_succ_cons, List.take_zero, mks, putsL]
      exact key _ (by repeat (rw [eval_other (by decide)])
                      rfl)
    · obtain ⟨h0, h1, -⟩ := K3.out.later hv
      have key : ∀ A : Act, A.eval (.tmp 5) = .pointer (some ⟨sz + 1 + 1, 0, none⟩) → makesUpon Try.prog (RC (.agg #[.int .i64 k, .int .i64 x0, .int .i64 y0, .int .i64 x1, .int .i64 y1, .slice pa l.length pc, .int .i64 a, .int .i64 b, .int .i64 c, .int .i64 d]) (.agg #[.int .i64 ax, .int .i64 ay]) (.agg #[.int .i64 bx, .int .i64 by_]) E C 7) v ((execOp A.eval oo).run Try.prog v) := fun A hA => by
        rw [← Option.some.inj ho]
        refine makes_val (x := .agg #[.int .i64 bx, .int .i64 by_]) (u := v) ?_ (Below.refl _ _) rfl
        simp only [execOp, hA]
        simp [go_sem, h0, h1]
      clear hk ho
      simp only [List.take_succ_cons, List.take_zero, mks, putsL]
      exact key _ (by repeat (rw [eval_other (by decide)])
                      rfl)
    · obtain rfl := Option.some.inj ho
      have e6 : U 6 = _ := hk 6 (by omega) (by kernel_rfl)
      have e7 : U 7 = _ := hk 7 (by omega) (by kernel_rfl)
      clear hk
      simp only [List.take_succ_cons, List.take_zero, mks, putsL, e6, e7]
      refine makes_of (f := 12) (args := #[.agg #[.int .i64 ax, .int .i64 ay], .agg #[.int .i64 bx, .int .i64 by_]]) ?_ (Cells_any ax ay bx by_ v) (fun e u h => ?_)
      · simp [go_sem]
      · obtain ⟨a', c', h1, ⟨h2, -⟩, h3⟩ := h
        rw [HC.out] at h1 h2
        exact ⟨_, h1, h3, a', c', rfl, h2⟩
    · obtain ⟨h0, h1, -⟩ := K2.out.later hv
      have key : ∀ A : Act, A.eval (.tmp 4) = .pointer (some ⟨sz + 1, 0, none⟩) → makesUpon Try.prog (RC (.agg #[.int .i64 k, .int .i64 x0, .int .i64 y0, .int .i64 x1, .int .i64 y1, .slice pa l.length pc, .int .i64 a, .int .i64 b, .int .i64 c, .int .i64 d]) (.agg #[.int .i64 ax, .int .i64 ay]) (.agg #[.int .i64 bx, .int .i64 by_]) E C 9) v ((execOp A.eval oo).run Try.prog v) := fun A hA => by
        rw [← Option.some.inj ho]
        refine makes_val (x := .agg #[.int .i64 ax, .int .i64 ay]) (u := v) ?_ (Below.refl _ _) rfl
        simp only [execOp, hA]
        simp [go_sem, h0, h1]
      clear hk ho
      simp only [List.take_succ_cons, List.take_zero, mks, putsL]
      exact key _ (by repeat (rw [eval_other (by decide)])
                      rfl)
    · obtain ⟨h0, h1, -⟩ := K3.out.later hv
      have key : ∀ A : Act, A.eval (.tmp 5) = .pointer (some ⟨sz + 1 + 1, 0, none⟩) → makesUpon Try.prog (RC (.agg #[.int .i64 k, .int .i64 x0, .int .i64 y0, .int .i64 x1, .int .i64 y1, .slice pa l.length pc, .int .i64 a, .int .i64 b, .int .i64 c, .int .i64 d]) (.agg #[.int .i64 ax, .int .i64 ay]) (.agg #[.int .i64 bx, .int .i64 by_]) E C 10) v ((execOp A.eval oo).run Try.prog v) := fun A hA => by
        rw [← Option.some.inj ho]
        refine makes_val (x := .agg #[.int .i64 bx, .int .i64 by_]) (u := v) ?_ (Below.refl _ _) rfl
        simp only [execOp, hA]
        simp [go_sem, h0, h1]
      clear hk ho
      simp only [List.take_succ_cons, List.take_zero, mks, putsL]
      exact key _ (by repeat (rw [eval_other (by decide)])
                      rfl)
    · obtain rfl := Option.some.inj ho
      have e9 : U 9 = _ := hk 9 (by omega) (by kernel_rfl)
      have e10 : U 10 = _ := hk 10 (by omega) (by kernel_rfl)
      clear hk
      simp only [List.take_succ_cons, List.take_zero, mks, putsL, e9, e10]
      refine makes_of (f := 13) (args := #[.agg #[.int .i64 ax, .int .i64 ay], .agg #[.int .i64 bx, .int .i64 by_]]) ?_ (rCells_any ax ay bx by_ v) (fun e u h => ?_)
      · simp [go_sem]
      · obtain ⟨a', c', h1, ⟨h2, -⟩, h3⟩ := h
        rw [HC.out] at h1 h2
        exact ⟨_, h1, h3, a', c', rfl, h2⟩
    · obtain rfl := Option.some.inj ho
      obtain ⟨a1, c1, e8, p8⟩ := hk 8 (by omega) (by kernel_rfl)
      obtain ⟨a2, c2, e11, p11⟩ := hk 11 (by omega) (by kernel_rfl)
      clear hk
      simp only [List.take_succ_cons, List.take_zero, mks, putsL, e8, e11]
      refine makes_of (f := 11) (args := #[.slice a1 C.length c1, .slice a2 C.length c2]) ?_ (same_true C a1 a2 c1 c2 v HCL.out p8 p11) (fun e u h => ⟨_, h.1, h.2, rfl⟩)
      simp [go_sem]
    · have e5 : U 5 = _ := hk 5 (by omega) (by kernel_rfl)
      have e12 : U 12 = _ := hk 12 (by omega) (by kernel_rfl)
      have key : ∀ A : Act, A.eval (.tmp 12) = .bool true → A.eval (.tmp 19) = .bool true → makesUpon Try.prog (RC (.agg #[.int .i64 k, .int .i64 x0, .int .i64 y0, .int .i64 x1, .int .i64 y1, .slice pa l.length pc, .int .i64 a, .int .i64 b, .int .i64 c, .int .i64 d]) (.agg #[.int .i64 ax, .int .i64 ay]) (.agg #[.int .i64 bx, .int .i64 by_]) E C 13) v ((execOp A.eval oo).run Try.prog v) := fun A hA hB => by
        rw [← Option.some.inj ho]
        refine makes_val (x := .bool true) (u := v) ?_ (Below.refl _ _) rfl
        simp only [execOp, hA, hB]
        simp [go_sem]
      clear hk ho
      simp only [List.take_succ_cons, List.take_zero, mks, putsL, e5, e12]
      refine key _ ?_ ?_
      · iterate 7 (rw [eval_other (by decide)])
        exact eval_same (by simp [put_size])
      · exact eval_same (by simp [put_size])
    · obtain rfl := Option.some.inj ho
      have e13 : U 13 = _ := hk 13 (by omega) (by kernel_rfl)
      clear hk
      simp only [List.take_succ_cons, List.take_zero, mks, putsL, e13]
      refine makes_val (x := .bool true) (u := v) ?_ (Below.refl _ _) rfl
      simp [execOp, go_sem]
    · obtain rfl := Option.some.inj ho
      clear hk
      simp only [List.take_succ_cons, List.take_zero, mks, putsL]
      refine makes_of (f := 14) (args := #[]) ?_ (awake53 v) (fun e u h => ⟨_, h.1, h.2, rfl⟩)
      simp [go_sem]
    · have e14 : U 14 = _ := hk 14 (by omega) (by kernel_rfl)
      have e15 : U 15 = _ := hk 15 (by omega) (by kernel_rfl)
      have key : ∀ A : Act, A.eval (.tmp 21) = .bool true → A.eval (.tmp 22) = .bool true → makesUpon Try.prog (RC (.agg #[.int .i64 k, .int .i64 x0, .int .i64 y0, .int .i64 x1, .int .i64 y1, .slice pa l.length pc, .int .i64 a, .int .i64 b, .int .i64 c, .int .i64 d]) (.agg #[.int .i64 ax, .int .i64 ay]) (.agg #[.int .i64 bx, .int .i64 by_]) E C 16) v ((execOp A.eval oo).run Try.prog v) := fun A hA hB => by
        rw [← Option.some.inj ho]
        refine makes_val (x := .bool true) (u := v) ?_ (Below.refl _ _) rfl
        simp only [execOp, hA, hB]
        simp [go_sem]
      clear hk ho
      simp only [List.take_succ_cons, List.take_zero, mks, putsL, e14, e15]
      refine key _ ?_ ?_
      · iterate 1 (rw [eval_other (by decide)])
        exact eval_same (by simp [put_size])
      · exact eval_same (by simp [put_size])
  case hfin =>
    intro U u hb hR
    have e16 : U 16 = _ := hR 16 (by omega)
    have G4 := Lib.hid (G3.out.trans (hb.mono (by have := G3.out.size; have := HSZ.out; omega)))
    clear hR hb
    simp only [List.take_succ_cons, List.take_zero, List.drop_succ_cons, List.drop_zero, mks, putsL, e16]
    generalize U 0 = u0
    generalize U 1 = u1
    generalize U 2 = u2
    generalize U 3 = u3
    generalize U 4 = u4
    generalize U 5 = u5
    generalize U 6 = u6
    generalize U 7 = u7
    generalize U 8 = u8
    generalize U 9 = u9
    generalize U 10 = u10
    generalize U 11 = u11
    generalize U 12 = u12
    generalize U 13 = u13
    generalize U 14 = u14
    generalize U 15 = u15
    go_wp2
    go_ret
    exact ⟨rfl, by rw [HSZ.out]; exact G4.out⟩
end Go.Proofs.Ytjclioakdmilmaa
