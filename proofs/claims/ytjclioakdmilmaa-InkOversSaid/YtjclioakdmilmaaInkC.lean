/- The contracts of the reference's rounded and near. -/
import Derived.Test.YtjclioakdmilmaaInkA
namespace Go.Proofs.Ytjclioakdmilmaa
open Go.RowKit
open Num Ink
set_option linter.unusedVariables false
theorem rnd_t (n : Int) {d : Int} (hd : 0 < d) : rnd n d = if (2 * n + d).tmod (2 * d) < 0 then (2 * n + d).tdiv (2 * d) - 1 else (2 * n + d).tdiv (2 * d) := by
  unfold rnd
  have e := Int.mul_tdiv_add_tmod (2 * n + d) (2 * d)
  have l1 := Int.tmod_lt_of_pos (2 * n + d) (b := 2 * d) (by omega)
  have l2 := Int.lt_tmod_of_pos (2 * n + d) (b := 2 * d) (by omega)
  generalize (2 * n + d).tmod (2 * d) = r at *
  generalize (2 * n + d).tdiv (2 * d) = q at *
  split
  · refine fl_pos (by omega) ?_ ?_ <;> rw [Int.mul_sub, Int.mul_one] <;> omega
  · refine fl_pos (by omega) ?_ ?_ <;> omega
theorem rnd_tb (n : Int) {d : Int} (hd : 0 < d) (hn : -100000000 ≤ n ∧ n ≤ 100000000) (hd2 : d ≤ 8192) : -200010000 ≤ (2 * n + d).tdiv (2 * d) ∧ (2 * n + d).tdiv (2 * d) ≤ 200010000 := by
  have h : ((2 * n + d).tdiv (2 * d)).natAbs = (2 * n + d).natAbs / (2 * d).natAbs := Int.natAbs_tdiv _ _
  have h2 := Nat.div_le_self (2 * n + d).natAbs (2 * d).natAbs
  generalize (2 * n + d).natAbs / (2 * d).natAbs = z at *
  generalize (2 * n + d).tdiv (2 * d) = t at *
  omega
set_option maxHeartbeats 1000000 in
theorem rrounded_any (n d : Int) (w : World) (hd : 0 < d) (hd2 : d ≤ 8192) (hn : -100000000 ≤ n) (hn2 : n ≤ 100000000) :
    Calls Try.prog 30 #[.int .i64 n, .int .i64 d] w fun e w' => e = .returned (.int .i64 (rnd n d)) ∧ w = w' := by
  have HR := Lib.hid (rnd_t n hd)
  have RB := rnd_tb n hd ⟨hn, hn2⟩ hd2
  have h0 : ¬ 2 * d = 0 := by omega
  generalize rnd n d = R at *
  by_cases hr : (2 * n + d).tmod (2 * d) < 0
  · have HE := Lib.hid (HR.out.trans (if_pos hr))
    clear HR
    go_enter Try.func30, Try.ntmps30
    go_wp2
    go_ret
    rw [HE.out]
    exact ⟨rfl, rfl⟩
  · have HE := Lib.hid (HR.out.trans (if_neg hr))
    clear HR
    go_enter Try.func30, Try.ntmps30
    go_wp2
    go_ret
    rw [HE.out]
    exact ⟨rfl, rfl⟩
/-- a list of ints in memory -/
def Ns (w : World) (B : Nat) (a : Option Addr) (l : List Int) : Prop :=
  0 < l.length → ∃ b off, a = some ⟨b, off, none⟩ ∧ b < B ∧ ∀ j (h : j < l.length), w.cell? ⟨b, off + j, none⟩ = some (.int .i64 l[j])
theorem Ns.later {w w' : World} {a : Option Addr} {l : List Int} (h : Ns w w.heap.size a l) (hb : Below w.heap.size w w') : Ns w' w'.heap.size a l := fun hn => by
  obtain ⟨b, off, e, hB, hc⟩ := h hn
  have hs := hb.size
  exact ⟨b, off, e, by omega, fun j hj => (hb.cell (p := ⟨b, off + j, none⟩) hB).trans (hc j hj)⟩
def nrL (l : List Int) : Bool := l.all fun x => decide (-4096 ≤ x) && decide (x ≤ 4096)
theorem nrL_true {l : List Int} : nrL l = true ↔ ∀ j (h : j < l.length), -4096 ≤ l[j] ∧ l[j] ≤ 4096 := by
  unfold nrL
  rw [List.all_eq_true]
  constructor
  · intro h j hj
    have := h l[j] (List.getElem_mem hj)
    simpa using this
  · intro h x hx
    obtain ⟨j, hj, rfl⟩ := List.getElem_of_mem hx
    simpa using h j hj
theorem nrL_false {l : List Int} {j : Nat} (hj : j < l.length) (h : l[j] < -4096 ∨ 4096 < l[j]) : nrL l = false := by
  cases e : nrL l
  · rfl
  · have := nrL_true.1 e j hj; omega
set_option maxHeartbeats 2000000 in
theorem rnear_any (l : List Int) (a : Option Addr) (c : Nat) (w : World) (hl : l.length ≤ 100000) (h : Ns w w.heap.size a l) :
    Calls Try.prog 28 #[.slice a l.length c] w fun e w' => e = .returned (.bool (nrL l)) ∧ Below w.heap.size w w' := by
  have HA := Lib.hid h
  have HT := Lib.hid (nrL_true (l := l))
  have HF := Lib.hid (fun j hj h => nrL_false (l := l) (j := j) hj h)
  generalize nrL l = R at *
  clear h
  go_enter Try.func28, Try.ntmps28
  go_wp2_with fail
  go_loopw [3] (fun i wr => ∃ k : Nat, k ≤ l.length ∧ i = .int .i64 k ∧ Hid (∀ j (h : j < l.length), j < k → -4096 ≤ l[j] ∧ l[j] ≤ 4096) ∧ Hid (Below w.heap.size w wr)) (fun i _ => l.length - (intOf i).toNat)
  case atStart => exact ⟨0, by omega, rfl, Lib.hid (fun j _ h => absurd h (by omega)), Lib.hid (Below.refl _ _)⟩
  case round =>
    obtain ⟨k, hk, rfl, HP, HW⟩ := hrel
    by_cases hlt : k < l.length
    · obtain ⟨b1, o1, rfl, hb1, hc1⟩ := (HA.out.later HW.out) (by omega)
      have u1 : wr.cell? ⟨b1, o1 + k, none⟩ = some (.int .i64 l[k]) := hc1 k hlt
      have q1 : (0 : Int) ≤ (k : Int) := by omega
      have q2 : (k : Int) < (l.length : Int) := by omega
      have HF2 := Lib.hid (HF.out k hlt)
      have HP2 : Hid (-4096 ≤ l[k] ∧ l[k] ≤ 4096 → ∀ j (h : j < l.length), j < k + 1 → -4096 ≤ l[j] ∧ l[j] ≤ 4096) := Lib.hid (fun g j hj hjk => by
        by_cases e : j = k
        · subst e; exact g
        · exact HP.out j hj (by omega))
      clear hc1 HA HF HP
      generalize l[k] = x at *
      by_cases d1 : x < -4096
      · have d1' : decide (x < -4096) = true := by simpa using d1
        have hR := HF2.out (.inl d1)
        subst hR
        clear HF2 HP2 HT d1
        go_wp2
        go_ret
        exact ⟨rfl, HW.out⟩
      · have d1' : decide (x < -4096) = false := by simpa using d1
        by_cases d2 : 4096 < x
        · have d2' : decide (4096 < x) = true := by simpa using d2
          have hR := HF2.out (.inr d2)
          subst hR
          clear HF2 HP2 HT d1 d2
          go_wp2
          go_ret
          exact ⟨rfl, HW.out⟩
        · have d2' : decide (4096 < x) = false := by simpa using d2
          have HP3 := Lib.hid (HP2.out ⟨by omega, by omega⟩)
          clear HF2 HP2 HT d1 d2
          go_wp2
          go_roundw
          case rel => exact ⟨k + 1, by omega, by go_num, HP3, HW⟩
          case measure => simp [intOf] <;> omega
    · have hR := HT.out.2 (fun j hj => HP.out j hj (by omega))
      subst hR
      go_wp2
      go_ret
      exact ⟨rfl, HW.out⟩
end Go.Proofs.Ytjclioakdmilmaa
