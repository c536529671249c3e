/- The contracts of the law's few and of the reference's Same on equal plates. -/
import Derived.Test.YtjclioakdmilmaaInkP
namespace Go.Proofs.Ytjclioakdmilmaa
open Go.RowKit
open Num Ink
set_option linter.unusedVariables false
def fewB (D : List Dr) : Bool := decide (D.length ≤ 30) && D.all fun x => decide (x.l.length ≤ 40)
theorem fewB_true {D : List Dr} (h1 : D.length ≤ 30) (h2 : ∀ k (hk : k < D.length), D[k].l.length ≤ 40) : fewB D = true := by
  unfold fewB
  rw [Bool.and_eq_true, List.all_eq_true]
  refine ⟨by simpa using h1, fun x hx => ?_⟩
  obtain ⟨k, hk, rfl⟩ := List.getElem_of_mem hx
  simpa using h2 k hk
theorem fewB_long {D : List Dr} (h : ¬ D.length ≤ 30) : fewB D = false := by unfold fewB; simp [h]
theorem fewB_path {D : List Dr} {k : Nat} (hk : k < D.length) (h : 40 < D[k].l.length) : fewB D = false := by
  cases e : fewB D
  · rfl
  · unfold fewB at e
    rw [Bool.and_eq_true, List.all_eq_true] at e
    have := e.2 D[k] (List.getElem_mem hk)
    simp at this; omega
theorem fewB_iff {D : List Dr} : fewB D = true ↔ D.length ≤ 30 ∧ ∀ k (hk : k < D.length), D[k].l.length ≤ 40 := by
  constructor
  · intro h
    refine ⟨?_, fun k hk => ?_⟩
    · rcases Nat.lt_or_ge 30 D.length with h1 | h1
      · rw [fewB_long (by omega)] at h; cases h
      · exact h1
    · rcases Nat.lt_or_ge 40 D[k].l.length with h1 | h1
      · rw [fewB_path hk h1] at h; cases h
      · exact h1
  · intro h; exact fewB_true h.1 h.2
set_option maxHeartbeats 4000000 in
theorem few_any (D : List Dr) (da : Option Addr) (dc : Nat) (w : World) (hD : Drs w w.heap.size da D) (hm : D.length ≤ maxLen) (hl : ∀ k (hk : k < D.length), D[k].l.length ≤ maxLen) :
    Calls Try.prog 15 #[.slice da D.length dc] w fun e u => e = .returned (.bool (fewB D)) ∧ Below w.heap.size w u := by
  have HD := Lib.hid hD
  have HM := Lib.hid hm
  have HL := Lib.hid hl
  have HT := Lib.hid (fun h1 h2 => fewB_true (D := D) h1 h2)
  have HF1 := Lib.hid (fun h => fewB_long (D := D) h)
  have HF2 := Lib.hid (fun k hk h => fewB_path (D := D) (k := k) hk h)
  generalize fewB D = R at *
  clear hD hl
  unfold maxLen at hm
  go_enter Try.func15, Try.ntmps15
  go_wp2_with fail
  go_loopw [3] (fun i wr => ∃ k : Nat, k ≤ D.length ∧ k ≤ 31 ∧ i = .int .i64 k ∧ wr = w ∧ Hid (∀ m (hm : m < D.length), m < k → D[m].l.length ≤ 40)) (fun i _ => 40 - (intOf i).toNat)
  case atStart => exact ⟨0, by omega, by omega, rfl, rfl, Lib.hid (fun m _ h => by omega)⟩
  case round =>
    obtain ⟨k, hk, hk31, rfl, hwr, HK⟩ := hrel
    subst hwr
    by_cases hlt : k < D.length
    · have d1 : decide (k < D.length) = true := by simpa using hlt
      have q1 : (0 : Int) ≤ (k : Int) := by omega
      have q2 : (k : Int) < (D.length : Int) := by omega
      by_cases h30 : k ≤ 30
      · have d2 : decide ((k : Int) ≤ 30) = true := by simp; omega
        obtain ⟨b, off, rfl, -, hc⟩ := HD.out (by omega)
        obtain ⟨pa, pc, ⟨-, -, -, -, -, c5, -⟩, -⟩ := hc k hlt
        have hml := HL.out k hlt
        have HF3 := Lib.hid (HF2.out k hlt)
        have HT3 : Hid (D[k].l.length ≤ 40 → ∀ m (hm : m < D.length), m < k + 1 → D[m].l.length ≤ 40) := Lib.hid (fun h m hm hmk => by
          by_cases e : m < k
          · exact HK.out m hm e
          · obtain rfl : m = k := by omega
            exact h)
        clear hc
        generalize D[k].l.length = n at *
        unfold maxLen at hml
        by_cases h40 : 40 < n
        · have hR := HF3.out h40
          have d3 : decide ((40 : Int) < (n : Int)) = true := by simp; omega
          subst hR
          clear HF3 HT3 HF2 HF1 HT HK h40
          go_wp2
          go_ret
          exact ⟨rfl, Below.refl _ _⟩
        · have d3 : decide ((40 : Int) < (n : Int)) = false := by simp; omega
          have HK2 := Lib.hid (HT3.out (by omega))
          clear HF3 HT3 HK h40
          go_wp2
          go_roundw
          case rel => exact ⟨k + 1, by omega, by omega, by go_num, trivial, HK2⟩
          case measure => simp [intOf] <;> omega
      · have d2 : decide ((k : Int) ≤ 30) = false := by simp; omega
        have hR := HF1.out (by omega)
        have d3 : decide ((D.length : Int) ≤ 30) = false := by simp; omega
        subst hR
        clear HF2 HF1 HT HK h30
        go_wp2
        go_ret
        exact ⟨rfl, Below.refl _ _⟩
    · have d1 : decide (k < D.length) = false := by simpa using hlt
      by_cases h30 : D.length ≤ 30
      · have hR := HT.out h30 (fun m hm => HK.out m hm (by omega))
        have d3 : decide ((D.length : Int) ≤ 30) = true := by simp; omega
        subst hR
        clear HF2 HF1 HT HK h30
        go_wp2
        go_ret
        exact ⟨rfl, Below.refl _ _⟩
      · have hR := HF1.out h30
        have d3 : decide ((D.length : Int) ≤ 30) = false := by simp; omega
        subst hR
        clear HF2 HF1 HT HK h30
        go_wp2
        go_ret
        exact ⟨rfl, Below.refl _ _⟩
end Go.Proofs.Ytjclioakdmilmaa
