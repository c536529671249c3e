/- The contract of cut.accepted; two points in boxes, and accepted and the reference's Near at two and at four points. -/
import Derived.Test.YtpdiojndfckmfaaGeoB
namespace Go.Proofs.Ytpdiojndfckmfaa
open Go.RowKit
open Num Geo
set_option linter.unusedVariables false
set_option maxHeartbeats 1000000 in
theorem acc_any (l : List (Int × Int)) (a : Option Addr) (c : Nat) (w : World) (hl : l.length ≤ 4200) (ha : Pts w w.heap.size a l) :
    Calls Try.prog 26 #[.slice a l.length c] w fun e w' => e = .returned (.bool (nearL l)) ∧ Below w.heap.size w w' := by
  have HA := Lib.hid ha
  clear ha
  go_enter Try.func26, Try.ntmps26
  go_wp2_with fail
  go_loopw [7] (fun i wr => ∃ k : Nat, k ≤ l.length ∧ i = .int .i64 k ∧ Hid (nearL (l.take k) = true) ∧ Hid (Below w.heap.size w wr)) (fun i _ => l.length - (intOf i).toNat)
  case atStart => exact ⟨0, by omega, rfl, Lib.hid (by simp [nearL]), Lib.hid (Below.refl _ _)⟩
  case round =>
    obtain ⟨k, hk, rfl, HT, HW⟩ := hrel
    by_cases hlt : k < l.length
    · obtain ⟨b1, o1, rfl, hb1, hc1⟩ := (HA.out.later HW.out) (by omega)
      have u1 : wr.cell? ⟨b1, o1 + k * 2, none⟩ = some (.int .i64 l[k].1) := (hc1 k hlt).1
      have u2 : wr.cell? ⟨b1, o1 + k * 2 + 1, none⟩ = some (.int .i64 l[k].2) := (hc1 k hlt).2
      have q1 : (0 : Int) ≤ (k : Int) := by omega
      have q2 : (k : Int) < (l.length : Int) := by omega
      have NS := Lib.hid (fun h => near_step hlt HT.out h)
      have NF := Lib.hid (fun h => near_fail hlt h)
      generalize l[k].1 = x at *
      generalize l[k].2 = y at *
      clear hc1 HA
      rcases nearP_cases x y with ⟨hn, h1, h2, h3, h4⟩ | ⟨hn, hx⟩
      · have d1 : decide (x < -2097152) = false := by simp; omega
        have d2 : decide (2097152 < x) = false := by simp; omega
        have d3 : decide (y < -2097152) = false := by simp; omega
        have d4 : decide (2097152 < y) = false := by simp; omega
        have NN := Lib.hid (NS.out hn)
        clear hn NS NF
        go_wp2
        go_roundw
        case rel => exact ⟨k + 1, by omega, by go_num, NN, Lib.hid (below_on HW.out (below_al _ _))⟩
        case measure => simp [intOf] <;> omega
      · have NN := Lib.hid (NF.out hn)
        clear hn NS NF
        rcases hx with h1 | ⟨h1, h2⟩ | ⟨h1, h2, h3⟩ | ⟨h1, h2, h3, h4⟩
        · have d1 : decide (x < -2097152) = true := by simpa using h1
          go_wp2
          go_ret
          exact ⟨ret_bool' NN.out.symm, below_on HW.out (below_al _ _)⟩
        · have d1 : decide (x < -2097152) = false := by simp; omega
          have d2 : decide (2097152 < x) = true := by simpa using h2
          go_wp2
          go_ret
          exact ⟨ret_bool' NN.out.symm, below_on HW.out (below_al _ _)⟩
        · have d1 : decide (x < -2097152) = false := by simp; omega
          have d2 : decide (2097152 < x) = false := by simp; omega
          have d3 : decide (y < -2097152) = true := by simpa using h3
          go_wp2
          go_ret
          exact ⟨ret_bool' NN.out.symm, below_on HW.out (below_al _ _)⟩
        · have d1 : decide (x < -2097152) = false := by simp; omega
          have d2 : decide (2097152 < x) = false := by simp; omega
          have d3 : decide (y < -2097152) = false := by simp; omega
          have d4 : decide (2097152 < y) = true := by simpa using h4
          go_wp2
          go_ret
          exact ⟨ret_bool' NN.out.symm, below_on HW.out (below_al _ _)⟩
    · have HK : Hid (nearL l = true) := Lib.hid (by rw [← List.take_of_length_le (show l.length ≤ k by omega)]; exact HT.out)
      go_wp2
      go_ret
      exact ⟨ret_bool' HK.out.symm, HW.out⟩
/-- 2 points in boxes, then in an array -/
def B2 (w : World) (ax ay bx by_ : Int) : World := (w.alloc (.cells #[.int .i64 ax, .int .i64 ay] 23)).alloc (.cells #[.int .i64 bx, .int .i64 by_] 23)
def S2 (w : World) (ax ay bx by_ : Int) : World := (B2 w ax ay bx by_).alloc (.cells #[.int .i64 ax, .int .i64 ay, .int .i64 bx, .int .i64 by_] 23)
/-- the boxes hold the points, and all that was there is as it was -/
def Has2 (w v : World) (ax ay bx by_ : Int) : Prop := v.cell? ⟨w.heap.size, 0, none⟩ = some (.int .i64 ax) ∧ v.cell? ⟨w.heap.size, 1, none⟩ = some (.int .i64 ay) ∧ v.cell? ⟨w.heap.size + 1, 0, none⟩ = some (.int .i64 bx) ∧ v.cell? ⟨w.heap.size + 1, 1, none⟩ = some (.int .i64 by_) ∧ Below w.heap.size w v
theorem Has2.later {w v u : World} {ax ay bx by_ : Int} (h : Has2 w v ax ay bx by_) (hb : Below v.heap.size v u) : Has2 w u ax ay bx by_ := by
  obtain ⟨h0, h1, h2, h3, g⟩ := h
  exact ⟨cell_on h0 hb, cell_on h1 hb, cell_on h2 hb, cell_on h3 hb, below_on g hb⟩
theorem B2_has (w : World) (ax ay bx by_ : Int) : Has2 w (B2 w ax ay bx by_) ax ay bx by_ := by
  have e1 : (w.alloc (.cells #[.int .i64 ax, .int .i64 ay] 23)).heap.size = w.heap.size + 1 := by simp
  refine ⟨?_, ?_, ?_, ?_, ?_⟩
  · exact cell_al (cell_new2 _).1 _
  · exact cell_al (cell_new2 _).2 _
  · rw [← e1]; exact (cell_new2 _).1
  · rw [← e1]; exact (cell_new2 _).2
  · exact below_on (below_al w _) (below_al _ _)
theorem B2_size (w : World) (ax ay bx by_ : Int) : (B2 w ax ay bx by_).heap.size = w.heap.size + 1 + 1 := by unfold B2; simp
theorem S2_pts (w : World) (ax ay bx by_ : Int) : Pts (S2 w ax ay bx by_) (S2 w ax ay bx by_).heap.size (some ⟨w.heap.size + 1 + 1, 0, none⟩) [(ax, ay), (bx, by_)] := fun _ => by
  refine ⟨_, _, rfl, ?_, ?_⟩
  · unfold S2; rw [← B2_size w ax ay bx by_]; simp
  · intro j hj
    unfold S2
    rw [← B2_size w ax ay bx by_]
    match j, hj with
    | 0, _ => exact ⟨by simp, by simp⟩
    | 1, _ => exact ⟨by simp, by simp⟩
theorem S2_has {w v : World} {ax ay bx by_ : Int} (hb : Below (S2 w ax ay bx by_).heap.size (S2 w ax ay bx by_) v) : Has2 w v ax ay bx by_ :=
  ((B2_has w ax ay bx by_).later (below_al _ _)).later hb
theorem acc2 (w : World) (ax ay bx by_ : Int) : Calls Try.prog 26 #[.slice (some ⟨w.heap.size + 1 + 1, 0, none⟩) 2 2] (S2 w ax ay bx by_) fun e w' => e = .returned (.bool (nearL [(ax, ay), (bx, by_)])) ∧ Has2 w w' ax ay bx by_ :=
  (acc_any [(ax, ay), (bx, by_)] _ 2 _ (by simp) (S2_pts w ax ay bx by_)).mono fun e w' ⟨h1, h2⟩ => ⟨h1, S2_has h2⟩
theorem rnear2 (w : World) (ax ay bx by_ : Int) : Calls Try.prog 21 #[.slice (some ⟨w.heap.size + 1 + 1, 0, none⟩) 2 2] (S2 w ax ay bx by_) fun e w' => e = .returned (.bool (nearL [(ax, ay), (bx, by_)])) ∧ Has2 w w' ax ay bx by_ :=
  (rnear_any [(ax, ay), (bx, by_)] _ 2 _ (by simp) (S2_pts w ax ay bx by_)).mono fun e w' ⟨h1, h2⟩ => ⟨h1, S2_has h2⟩
theorem acc4 (w : World) (ax ay bx by_ cx cy dx dy : Int) : Calls Try.prog 26 #[.slice (some ⟨w.heap.size + 1 + 1 + 1 + 1, 0, none⟩) 4 4] (S4 w ax ay bx by_ cx cy dx dy) fun e w' => e = .returned (.bool (nearL [(ax, ay), (bx, by_), (cx, cy), (dx, dy)])) ∧ Has4 w w' ax ay bx by_ cx cy dx dy :=
  (acc_any [(ax, ay), (bx, by_), (cx, cy), (dx, dy)] _ 4 _ (by simp) (S4_pts w ax ay bx by_ cx cy dx dy)).mono fun e w' ⟨h1, h2⟩ => ⟨h1, S4_has h2⟩
end Go.Proofs.Ytpdiojndfckmfaa
