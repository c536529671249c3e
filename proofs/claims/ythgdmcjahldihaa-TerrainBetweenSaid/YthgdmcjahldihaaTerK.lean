/- The contracts of terrain.Peaks as a whole, of the reference's Same for equal lists, and of the law's light. -/
import Derived.Test.YthgdmcjahldihaaTerJ
import Derived.Deep.QuietTactic
import Derived.BigQuiet
namespace Go.Proofs.Ythgdmcjahldihaa
open Go.RowKit
set_option linter.unusedVariables false

/-- the peaks of a grid -/
def pkAll (x y W H S : Int) (n : Nat) (z : Nat → Int) : List (Int × Int) := if Ter.chk x y W H S n z = 0 then Ter.pkL z W.toNat H.toNat x y S (H.toNat * W.toNat) else []
theorem Peaks_any (x y W H S : Int) (A : Option Addr) (n c : Nat) (z : Nat → Int) (w : World) (hn : n ≤ 4200) (hcap : n ≤ c) (hcm : c ≤ maxLen) (hA : Ints w w.heap.size A n z) :
    Calls Try.prog 33 #[hgt x y W H S A n c] w (PtsOut (pkAll x y W H S n z) (Ter.chk x y W H S n z) w) := by
  unfold pkAll
  by_cases h : Ter.chk x y W H S n z = 0
  · rw [if_pos h, h]
    obtain ⟨⟨-, -, ⟨g5, g6⟩, ⟨g7, g8⟩, -, -, -⟩, hw, -⟩ := Ter.chk_zero h
    have h4 : 4 ≤ W * H := Int.mul_le_mul g5 g7 (by omega) (by omega)
    obtain ⟨b, off, rfl, hb, hc⟩ := hA (by omega)
    obtain ⟨m, rfl⟩ := Int.eq_ofNat_of_zero_le (show 0 ≤ W by omega)
    obtain ⟨q, rfl⟩ := Int.eq_ofNat_of_zero_le (show 0 ≤ H by omega)
    exact Peaks_ok x y S b off n c m q z w hn hcap hcm hb hc h
  · rw [if_neg h]; exact Peaks_err x y W H S A n c z w hn hA h

set_option maxHeartbeats 400000 in
theorem Same_pts (l : List (Int × Int)) (a b : Option Addr) (ca cb : Nat) (w : World) (hl : l.length ≤ 4200) (ha : Pts w w.heap.size a l) (hb : Pts w w.heap.size b l) :
    Calls Try.prog 35 #[.slice a l.length ca, .slice b l.length cb] w fun e w' => e = .returned (.bool true) ∧ Below w.heap.size w w' := by
  have HA := Lib.hid ha
  have HB := Lib.hid hb
  clear ha hb
  go_enter Try.func35, Try.ntmps35
  go_wp2_with fail
  go_loopw [5] (fun i wr => ∃ k : Nat, k ≤ l.length ∧ i = .int .i64 k ∧ Hid (∃ nn, wr = w.drewN nn)) (fun i _ => l.length - (intOf i).toNat)
  case atStart => exact ⟨0, by omega, rfl, Lib.hid ⟨0, rfl⟩⟩
  case round =>
    obtain ⟨k, hk, rfl, HW⟩ := hrel
    by_cases hlt : k < l.length
    · obtain ⟨b1, o1, rfl, hb1, hc1⟩ := HA.out (by omega)
      obtain ⟨b2, o2, rfl, hb2, hc2⟩ := HB.out (by omega)
      obtain ⟨nn, rfl⟩ := HW.out
      have u1 : w.cell? ⟨b1, o1 + k * 2, none⟩ = some (.int .i64 l[k].1) := (hc1 k hlt).1
      have u2 : w.cell? ⟨b1, o1 + k * 2 + 1, none⟩ = some (.int .i64 l[k].2) := (hc1 k hlt).2
      have u3 : w.cell? ⟨b2, o2 + k * 2, none⟩ = some (.int .i64 l[k].1) := (hc2 k hlt).1
      have u4 : w.cell? ⟨b2, o2 + k * 2 + 1, none⟩ = some (.int .i64 l[k].2) := (hc2 k hlt).2
      generalize l[k].1 = p1 at *
      generalize l[k].2 = p2 at *
      clear hc1 hc2 HA HB HW
      have q1 : (0 : Int) ≤ (k : Int) := by omega
      have q2 : (k : Int) < (l.length : Int) := by omega
      go_wp2_with fail
      go_quiet (fail)
      go_wp2
      go_roundw
      case rel => exact ⟨k + 1, by omega, by go_num, Lib.hid ⟨_, rfl⟩⟩
      case measure => simp [intOf] <;> omega
    · have HF : Hid (Below w.heap.size w wr) := by obtain ⟨nn, h⟩ := HW.out; rw [h]; exact Lib.hid (below_drew (Below.refl _ _) _)
      go_wp2
      go_ret
      exact ⟨rfl, HF.out⟩

set_option maxHeartbeats 400000 in
theorem light_yes (x y W H S : Int) (A : Option Addr) (n c : Nat) (w : World) (hn : n ≤ 4200) :
    Calls Try.prog 24 #[hgt x y W H S A n c] w fun e w' => e = .returned (.bool true) ∧ Below w.heap.size w w' := by
  unfold hgt
  have d : decide ((n : Int) ≤ 4200) = true := by simp; omega
  go_enter Try.func24, Try.ntmps24
  go_wp2
  go_ret
  exact ⟨rfl, by go_grown⟩
set_option maxHeartbeats 400000 in
theorem light_no (x y W H S : Int) (A : Option Addr) (n c : Nat) (w : World) (hn : ¬ n ≤ 4200) :
    Calls Try.prog 24 #[hgt x y W H S A n c] w fun e w' => e = .returned (.bool false) ∧ Below w.heap.size w w' := by
  unfold hgt
  have d : decide ((n : Int) ≤ 4200) = false := by simp; omega
  go_enter Try.func24, Try.ntmps24
  go_wp2
  go_ret
  exact ⟨rfl, by go_grown⟩
end Go.Proofs.Ythgdmcjahldihaa
