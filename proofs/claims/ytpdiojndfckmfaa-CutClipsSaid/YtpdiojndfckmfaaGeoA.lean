/- The contracts of geom.near and of the reference's Near: whether all points of a list are near. -/
import Derived.Test.YtpdiojndfckmfaaGeoNum
import Derived.Test.YtpdiojndfckmfaaCutBase
import Derived.Test.YtpdiojndfckmfaaBox
namespace Go.Proofs.Ytpdiojndfckmfaa
open Go.RowKit
open Num Geo
set_option linter.unusedVariables false
/-- the cells of a list of points -/
def Pts (w : World) (B : Nat) (a : Option Addr) (l : List (Int × Int)) : Prop :=
  0 < l.length → ∃ b off, a = some ⟨b, off, none⟩ ∧ b < B ∧ ∀ j (h : j < l.length), w.cell? ⟨b, off + j * 2, none⟩ = some (.int .i64 l[j].1) ∧ w.cell? ⟨b, off + (j * 2 + 1), none⟩ = some (.int .i64 l[j].2)
theorem Pts.later {w w' : World} {a : Option Addr} {l : List (Int × Int)} (h : Pts w w.heap.size a l) (hb : Below w.heap.size w w') : Pts w' w'.heap.size a l := fun hn => by
  obtain ⟨b, off, e, hB, hc⟩ := h hn
  have hs := hb.size
  exact ⟨b, off, e, by omega, fun j hj => ⟨(hb.cell (p := ⟨b, off + j * 2, none⟩) hB).trans (hc j hj).1, (hb.cell (p := ⟨b, off + (j * 2 + 1), none⟩) hB).trans (hc j hj).2⟩⟩
set_option maxHeartbeats 1000000 in
theorem near_any (l : List (Int × Int)) (a : Option Addr) (c : Nat) (w : World) (hl : l.length ≤ 4200) (ha : Pts w w.heap.size a l) :
    Calls Try.prog 50 #[.slice a l.length c] w fun e w' => e = .returned (.bool (nearL l)) ∧ Below w.heap.size w w' := by
  have HA := Lib.hid ha
  clear ha
  go_enter Try.func50, Try.ntmps50
  go_wp2_with fail
  go_loopw [7] (fun i wr => ∃ k : Nat, k ≤ l.length ∧ i = .int .i64 k ∧ Hid (nearL (l.take k) = true) ∧ Hid (Below w.heap.size w wr)) (fun i _ => l.length - (intOf i).toNat)
  case atStart => exact ⟨0, by omega, rfl, Lib.hid (by simp [nearL]), Lib.hid (Below.refl _ _)⟩
  case round =>
    obtain ⟨k, hk, rfl, HT, HW⟩ := hrel
    by_cases hlt : k < l.length
    · obtain ⟨b1, o1, rfl, hb1, hc1⟩ := (HA.out.later HW.out) (by omega)
      have u1 : wr.cell? ⟨b1, o1 + k * 2, none⟩ = some (.int .i64 l[k].1) := (hc1 k hlt).1
      have u2 : wr.cell? ⟨b1, o1 + k * 2 + 1, none⟩ = some (.int .i64 l[k].2) := (hc1 k hlt).2
      have q1 : (0 : Int) ≤ (k : Int) := by omega
      have q2 : (k : Int) < (l.length : Int) := by omega
      have NS := Lib.hid (fun h => near_step hlt HT.out h)
      have NF := Lib.hid (fun h => near_fail hlt h)
      generalize l[k].1 = x at *
      generalize l[k].2 = y at *
      clear hc1 HA
      rcases nearP_cases x y with ⟨hn, h1, h2, h3, h4⟩ | ⟨hn, hx⟩
      · have d1 : decide (x < -2097152) = false := by simp; omega
        have d2 : decide (2097152 < x) = false := by simp; omega
        have d3 : decide (y < -2097152) = false := by simp; omega
        have d4 : decide (2097152 < y) = false := by simp; omega
        have NN := Lib.hid (NS.out hn)
        clear hn NS NF
        go_wp2
        go_roundw
        case rel => exact ⟨k + 1, by omega, by go_num, NN, Lib.hid (below_on HW.out (below_al _ _))⟩
        case measure => simp [intOf] <;> omega
      · have NN := Lib.hid (NF.out hn)
        clear hn NS NF
        rcases hx with h1 | ⟨h1, h2⟩ | ⟨h1, h2, h3⟩ | ⟨h1, h2, h3, h4⟩
        · have d1 : decide (x < -2097152) = true := by simpa using h1
          go_wp2
          go_ret
          exact ⟨ret_bool' NN.out.symm, below_on HW.out (below_al _ _)⟩
        · have d1 : decide (x < -2097152) = false := by simp; omega
          have d2 : decide (2097152 < x) = true := by simpa using h2
          go_wp2
          go_ret
          exact ⟨ret_bool' NN.out.symm, below_on HW.out (below_al _ _)⟩
        · have d1 : decide (x < -2097152) = false := by simp; omega
          have d2 : decide (2097152 < x) = false := by simp; omega
          have d3 : decide (y < -2097152) = true := by simpa using h3
          go_wp2
          go_ret
          exact ⟨ret_bool' NN.out.symm, below_on HW.out (below_al _ _)⟩
        · have d1 : decide (x < -2097152) = false := by simp; omega
          have d2 : decide (2097152 < x) = false := by simp; omega
          have d3 : decide (y < -2097152) = false := by simp; omega
          have d4 : decide (2097152 < y) = true := by simpa using h4
          go_wp2
          go_ret
          exact ⟨ret_bool' NN.out.symm, below_on HW.out (below_al _ _)⟩
    · have HK : Hid (nearL l = true) := Lib.hid (by rw [← List.take_of_length_le (show l.length ≤ k by omega)]; exact HT.out)
      go_wp2
      go_ret
      exact ⟨ret_bool' HK.out.symm, HW.out⟩
set_option maxHeartbeats 1000000 in
theorem rnear_any (l : List (Int × Int)) (a : Option Addr) (c : Nat) (w : World) (hl : l.length ≤ 4200) (ha : Pts w w.heap.size a l) :
    Calls Try.prog 21 #[.slice a l.length c] w fun e w' => e = .returned (.bool (nearL l)) ∧ Below w.heap.size w w' := by
  have HA := Lib.hid ha
  clear ha
  go_enter Try.func21, Try.ntmps21
  go_wp2_with fail
  go_loopw [3] (fun i wr => ∃ k : Nat, k ≤ l.length ∧ i = .int .i64 k ∧ Hid (nearL (l.take k) = true) ∧ Hid (Below w.heap.size w wr)) (fun i _ => l.length - (intOf i).toNat)
  case atStart => exact ⟨0, by omega, rfl, Lib.hid (by simp [nearL]), Lib.hid (Below.refl _ _)⟩
  case round =>
    obtain ⟨k, hk, rfl, HT, HW⟩ := hrel
    by_cases hlt : k < l.length
    · obtain ⟨b1, o1, rfl, hb1, hc1⟩ := (HA.out.later HW.out) (by omega)
      have u1 : wr.cell? ⟨b1, o1 + k * 2, none⟩ = some (.int .i64 l[k].1) := (hc1 k hlt).1
      have u2 : wr.cell? ⟨b1, o1 + k * 2 + 1, none⟩ = some (.int .i64 l[k].2) := (hc1 k hlt).2
      have q1 : (0 : Int) ≤ (k : Int) := by omega
      have q2 : (k : Int) < (l.length : Int) := by omega
      have NS := Lib.hid (fun h => near_step hlt HT.out h)
      have NF := Lib.hid (fun h => near_fail hlt h)
      generalize l[k].1 = x at *
      generalize l[k].2 = y at *
      clear hc1 HA
      rcases nearP_cases x y with ⟨hn, h1, h2, h3, h4⟩ | ⟨hn, hx⟩
      · have d1 : decide (x < -2097152) = false := by simp; omega
        have d2 : decide (2097152 < x) = false := by simp; omega
        have d3 : decide (y < -2097152) = false := by simp; omega
        have d4 : decide (2097152 < y) = false := by simp; omega
        have NN := Lib.hid (NS.out hn)
        clear hn NS NF
        go_wp2
        go_roundw
        case rel => exact ⟨k + 1, by omega, by go_num, NN, Lib.hid (HW.out)⟩
        case measure => simp [intOf] <;> omega
      · have NN := Lib.hid (NF.out hn)
        clear hn NS NF
        rcases hx with h1 | ⟨h1, h2⟩ | ⟨h1, h2, h3⟩ | ⟨h1, h2, h3, h4⟩
        · have d1 : decide (x < -2097152) = true := by simpa using h1
          go_wp2
          go_ret
          exact ⟨ret_bool' NN.out.symm, HW.out⟩
        · have d1 : decide (x < -2097152) = false := by simp; omega
          have d2 : decide (2097152 < x) = true := by simpa using h2
          go_wp2
          go_ret
          exact ⟨ret_bool' NN.out.symm, HW.out⟩
        · have d1 : decide (x < -2097152) = false := by simp; omega
          have d2 : decide (2097152 < x) = false := by simp; omega
          have d3 : decide (y < -2097152) = true := by simpa using h3
          go_wp2
          go_ret
          exact ⟨ret_bool' NN.out.symm, HW.out⟩
        · have d1 : decide (x < -2097152) = false := by simp; omega
          have d2 : decide (2097152 < x) = false := by simp; omega
          have d3 : decide (y < -2097152) = false := by simp; omega
          have d4 : decide (2097152 < y) = true := by simpa using h4
          go_wp2
          go_ret
          exact ⟨ret_bool' NN.out.symm, HW.out⟩
    · have HK : Hid (nearL l = true) := Lib.hid (by rw [← List.take_of_length_le (show l.length ≤ k by omega)]; exact HT.out)
      go_wp2
      go_ret
      exact ⟨ret_bool' HK.out.symm, HW.out⟩
end Go.Proofs.Ytpdiojndfckmfaa
