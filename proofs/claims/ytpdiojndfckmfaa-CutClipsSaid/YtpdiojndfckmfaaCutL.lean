/- The contracts of the reference's Same and SameParts on equal lists. -/
import Derived.Test.YtpdiojndfckmfaaCutI
import Derived.Test.YtpdiojndfckmfaaCutA
namespace Go.Proofs.Ytpdiojndfckmfaa
open Go.RowKit
open Num Geo Cut
set_option linter.unusedVariables false
theorem pcs_get (l : List (Int × Int)) (j : Nat) (h : j < l.length) : (pcs l)[j * 2]? = some (.int .i64 l[j].1) ∧ (pcs l)[j * 2 + 1]? = some (.int .i64 l[j].2) := by
  induction l generalizing j with
  | nil => simp at h
  | cons p l ih =>
    have e : pcs (p :: l) = .int .i64 p.1 :: .int .i64 p.2 :: pcs l := by simp [pcs]
    rw [e]
    cases j with
    | zero => simp
    | succ j =>
      have := ih j (by simpa using h)
      rw [show (j + 1) * 2 = j * 2 + 1 + 1 by omega]
      simpa using this
theorem own_pts {w : World} {base : Nat} {a : Option Addr} {cap : Nat} {l : List (Int × Int)} (h : w.ownsRow base 23 2 (.slice a l.length cap) l.length (pcs l)) : Pts w w.heap.size a l := fun hn => by
  rcases h.2 with ⟨-, h0⟩ | ⟨g, cap', cur, hv, hb, hg, hcap, hm, hcs, htk⟩
  · omega
  · have ha : a = some ⟨g, 0, none⟩ := by simp at hv; exact hv.1
    refine ⟨g, 0, ha, lt_of_block hg, fun j hj => ?_⟩
    have hc1 := h.cells (g := g) (by rw [ha]; rfl) (j * 2) _ (pcs_get l j hj).1
    have hc2 := h.cells (g := g) (by rw [ha]; rfl) (j * 2 + 1) _ (pcs_get l j hj).2
    have e : ∀ i, (⟨g, 0, none⟩ : Addr).add i = ⟨g, 0 + i, none⟩ := fun i => by unfold Addr.add; split <;> simp_all
    rw [e] at hc1 hc2
    exact ⟨hc1, hc2⟩
set_option maxHeartbeats 2000000 in
theorem same_true (l : List (Int × Int)) (a1 a2 : Option Addr) (c1 c2 : Nat) (w : World) (hl : l.length ≤ 100) (h1 : Pts w w.heap.size a1 l) (h2 : Pts w w.heap.size a2 l) :
    Calls Try.prog 49 #[.slice a1 l.length c1, .slice a2 l.length c2] w fun e w' => e = .returned (.bool true) ∧ Below w.heap.size w w' := by
  have HA := Lib.hid h1
  have HB := Lib.hid h2
  clear h1 h2
  go_enter Try.func49, Try.ntmps49
  go_wp2_with fail
  go_loopw [5] (fun i wr => ∃ k : Nat, k ≤ l.length ∧ i = .int .i64 k ∧ Hid (Below w.heap.size w wr)) (fun i _ => l.length - (intOf i).toNat)
  case atStart => exact ⟨0, by omega, rfl, Lib.hid (Below.refl _ _)⟩
  case round =>
    obtain ⟨k, hk, rfl, HW⟩ := hrel
    by_cases hlt : k < l.length
    · obtain ⟨b1, o1, rfl, hb1, hc1⟩ := (HA.out.later HW.out) (by omega)
      obtain ⟨b2, o2, rfl, hb2, hc2⟩ := (HB.out.later HW.out) (by omega)
      have u1 : wr.cell? ⟨b1, o1 + k * 2, none⟩ = some (.int .i64 l[k].1) := (hc1 k hlt).1
      have u2 : wr.cell? ⟨b1, o1 + k * 2 + 1, none⟩ = some (.int .i64 l[k].2) := (hc1 k hlt).2
      have u3 : wr.cell? ⟨b2, o2 + k * 2, none⟩ = some (.int .i64 l[k].1) := (hc2 k hlt).1
      have u4 : wr.cell? ⟨b2, o2 + k * 2 + 1, none⟩ = some (.int .i64 l[k].2) := (hc2 k hlt).2
      have q1 : (0 : Int) ≤ (k : Int) := by omega
      have q2 : (k : Int) < (l.length : Int) := by omega
      generalize l[k].1 = x at *
      generalize l[k].2 = y at *
      clear hc1 hc2 HA HB
      have L1 := fun m : Later wr => m.cell u1
      have L2 := fun m : Later wr => m.cell u2
      have L3 := fun m : Later wr => m.cell u3
      have L4 := fun m : Later wr => m.cell u4
      go_wp2_with fail
      refine region_later (by kernel_rfl) (by kernel_rfl) ?_
      (go_big_quiet_want; go_big_quiet_op; go_big_quiet_on)
      (go_big_quiet_want; go_big_quiet_op; go_big_quiet_on)
      (go_big_quiet_want; go_big_quiet_op; go_big_quiet_on)
      (go_big_quiet_want; go_big_quiet_op; go_big_quiet_on)
      (go_big_quiet_want; go_big_quiet_op; go_big_quiet_on)
      (go_big_quiet_want; go_big_quiet_op; go_big_quiet_on)
      (go_big_quiet_want; go_big_quiet_op; go_big_quiet_on)
      (go_big_quiet_want; go_big_quiet_op; go_big_quiet_on)
      (go_big_quiet_want; go_big_quiet_op; go_big_quiet_on)
      refine wpQuiet_nil ?_
      refine later_end ?_
      intro m
      have HW2 := Lib.hid (below_on HW.out m.below)
      clear L1 L2 L3 L4 u1 u2 u3 u4
      go_wp2
      go_roundw
      case rel => exact ⟨k + 1, by omega, by go_num, HW2⟩
      case measure => simp [intOf] <;> omega
    · go_wp2
      go_ret
      exact ⟨rfl, HW.out⟩
set_option maxHeartbeats 4000000 in
theorem parts_true (l1 l2 : List (Int × Int)) (g d : Nat) (cap : Nat) (a1 a2 b1 b2 : Option Addr) (e1 e2 f1 f2 : Nat) (w : World) (hl1 : l1.length ≤ 100) (hl2 : l2.length ≤ 100)
    (k1 : w.cell? ⟨g, 0, none⟩ = some (.slice a1 l1.length e1)) (k2 : w.cell? ⟨g, 1, none⟩ = some (.slice a2 l2.length e2)) (k3 : w.cell? ⟨d, 0, none⟩ = some (.slice b1 l1.length f1)) (k4 : w.cell? ⟨d, 1, none⟩ = some (.slice b2 l2.length f2))
    (p1 : Pts w w.heap.size a1 l1) (p2 : Pts w w.heap.size a2 l2) (p3 : Pts w w.heap.size b1 l1) (p4 : Pts w w.heap.size b2 l2) :
    Calls Try.prog 25 #[.slice (some ⟨g, 0, none⟩) 2 cap, .slice (some ⟨d, 0, none⟩) 2 2] w fun e w' => e = .returned (.bool true) ∧ Below w.heap.size w w' := by
  have S1 := Lib.hid (fun v (h : Below w.heap.size w v) => same_true l1 a1 b1 e1 f1 v hl1 (p1.later h) (p3.later h))
  have S2 := Lib.hid (fun v (h : Below w.heap.size w v) => same_true l2 a2 b2 e2 f2 v hl2 (p2.later h) (p4.later h))
  clear p1 p2 p3 p4
  generalize l1.length = n1 at *
  generalize l2.length = n2 at *
  go_enter Try.func25, Try.ntmps25
  go_wp2_with fail
  go_loopw [5] (fun i wr => ∃ k : Int, 0 ≤ k ∧ k ≤ 2 ∧ i = .int .i64 k ∧ Hid (Below w.heap.size w wr)) (fun i _ => 2 - (intOf i).toNat)
  case atStart => exact ⟨0, by omega, by omega, rfl, Lib.hid (Below.refl _ _)⟩
  case round =>
    obtain ⟨k, hk0, hk, rfl, HW⟩ := hrel
    have u1 := cell_on k1 HW.out
    have u2 := cell_on k2 HW.out
    have u3 := cell_on k3 HW.out
    have u4 := cell_on k4 HW.out
    clear k1 k2 k3 k4
    have L1 := fun m : Later wr => m.cell u1
    have L2 := fun m : Later wr => m.cell u2
    have L3 := fun m : Later wr => m.cell u3
    have L4 := fun m : Later wr => m.cell u4
    rcases (show k = 0 ∨ k = 1 ∨ k = 2 by omega) with rfl | rfl | rfl
    · clear hk0 hk
      go_wp2_with fail
      refine region_later (by kernel_rfl) (by kernel_rfl) ?_
      (go_big_quiet_want; go_big_quiet_op; go_big_quiet_on)
      (go_big_quiet_want; go_big_quiet_op; go_big_quiet_on)
      (go_big_quiet_want; go_big_quiet_op; go_big_quiet_on)
      (go_big_quiet_want; go_big_quiet_op; go_big_quiet_on)
      (go_big_quiet_want; go_big_quiet_op; go_big_quiet_on)
      (go_big_quiet_want; go_big_quiet_op; go_big_quiet_on)
      (go_big_quiet_want; go_big_quiet_op; go_big_quiet_on)
      (go_big_quiet_want; go_big_quiet_op; go_big_quiet_on)
      (go_big_quiet_want; go_big_quiet_op; go_big_quiet_call (exact later_of (S1.out _ (below_on HW.out (Later.below _)))))
      (go_big_quiet_want; go_big_quiet_op; go_big_quiet_on)
      refine wpQuiet_nil ?_
      refine later_end ?_
      intro m
      have HW2 := Lib.hid (below_on HW.out m.below)
      clear L1 L2 L3 L4 u1 u2 u3 u4
      go_wp2
      go_roundw
      case rel => exact ⟨1, by omega, by omega, by go_num, HW2⟩
      case measure => simp [intOf] <;> omega
    · clear hk0 hk
      go_wp2_with fail
      refine region_later (by kernel_rfl) (by kernel_rfl) ?_
      (go_big_quiet_want; go_big_quiet_op; go_big_quiet_on)
      (go_big_quiet_want; go_big_quiet_op; go_big_quiet_on)
      (go_big_quiet_want; go_big_quiet_op; go_big_quiet_on)
      (go_big_quiet_want; go_big_quiet_op; go_big_quiet_on)
      (go_big_quiet_want; go_big_quiet_op; go_big_quiet_on)
      (go_big_quiet_want; go_big_quiet_op; go_big_quiet_on)
      (go_big_quiet_want; go_big_quiet_op; go_big_quiet_on)
      (go_big_quiet_want; go_big_quiet_op; go_big_quiet_on)
      (go_big_quiet_want; go_big_quiet_op; go_big_quiet_call (exact later_of (S2.out _ (below_on HW.out (Later.below _)))))
      (go_big_quiet_want; go_big_quiet_op; go_big_quiet_on)
      refine wpQuiet_nil ?_
      refine later_end ?_
      intro m
      have HW2 := Lib.hid (below_on HW.out m.below)
      clear L1 L2 L3 L4 u1 u2 u3 u4
      go_wp2
      go_roundw
      case rel => exact ⟨2, by omega, by omega, by go_num, HW2⟩
      case measure => simp [intOf] <;> omega
    · go_wp2
      go_ret
      exact ⟨rfl, HW.out⟩
end Go.Proofs.Ytpdiojndfckmfaa
