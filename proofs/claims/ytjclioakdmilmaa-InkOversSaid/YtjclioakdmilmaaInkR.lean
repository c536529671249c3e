/- The contract of the reference's Same on equal plates. -/
import Derived.Test.YtjclioakdmilmaaInkQ
namespace Go.Proofs.Ytjclioakdmilmaa
open Go.RowKit
open Num Ink
set_option linter.unusedVariables false
theorem p12_at {v : World} {b : Nat} {ws hs : Nat → Int} {ad : Nat → Option Addr} {cp : Nat → Nat} {vs : Nat → List Int} (h : P12 v b ws hs ad cp vs) {i : Nat} (hi : i < 4) : v.cell? ⟨b, i * 3, none⟩ = some (.int .i64 (ws i)) ∧ v.cell? ⟨b, i * 3 + 1, none⟩ = some (.int .i64 (hs i)) ∧ v.cell? ⟨b, i * 3 + 2, none⟩ = some (.slice (ad i) (vs i).length (cp i)) := by
  obtain ⟨h0, h1, h2, h3, h4, h5, h6, h7, h8, h9, h10, h11⟩ := h
  obtain rfl | rfl | rfl | rfl : i = 0 ∨ i = 1 ∨ i = 2 ∨ i = 3 := by omega
  · exact ⟨h0, h1, h2⟩
  · exact ⟨h3, h4, h5⟩
  · exact ⟨h6, h7, h8⟩
  · exact ⟨h9, h10, h11⟩
set_option maxRecDepth 100000 in
set_option maxHeartbeats 8000000 in
theorem same4_true (ws hs : Nat → Int) (vs : Nat → List Int) (ad ad' : Nat → Option Addr) (cp cp' : Nat → Nat) (w : World) (hN : Ns4 w ad vs) (hN' : Ns4 w ad' vs) (hl : ∀ i, i < 4 → (vs i).length ≤ 65536) :
    Calls Try.prog 19 #[pl4 ws hs fun i => .slice (ad i) (vs i).length (cp i), pl4 ws hs fun i => .slice (ad' i) (vs i).length (cp' i)] w fun e u => e = .returned (.bool true) ∧ Below w.heap.size w u := by
  unfold pl4
  have b1 := below_al w (.cells #[.int .i64 (ws 0), .int .i64 (hs 0), .slice (ad 0) (vs 0).length (cp 0), .int .i64 (ws 1), .int .i64 (hs 1), .slice (ad 1) (vs 1).length (cp 1), .int .i64 (ws 2), .int .i64 (hs 2), .slice (ad 2) (vs 2).length (cp 2), .int .i64 (ws 3), .int .i64 (hs 3), .slice (ad 3) (vs 3).length (cp 3)] 41)
  have p1 := P12.new w ws hs ad cp vs 41
  have s1 : (w.alloc (.cells #[.int .i64 (ws 0), .int .i64 (hs 0), .slice (ad 0) (vs 0).length (cp 0), .int .i64 (ws 1), .int .i64 (hs 1), .slice (ad 1) (vs 1).length (cp 1), .int .i64 (ws 2), .int .i64 (hs 2), .slice (ad 2) (vs 2).length (cp 2), .int .i64 (ws 3), .int .i64 (hs 3), .slice (ad 3) (vs 3).length (cp 3)] 41)).heap.size = w.heap.size + 1 := by simp
  go_enter Try.func19, Try.ntmps19
  go_upto_region 1 with fail
  generalize w.alloc (.cells #[.int .i64 (ws 0), .int .i64 (hs 0), .slice (ad 0) (vs 0).length (cp 0), .int .i64 (ws 1), .int .i64 (hs 1), .slice (ad 1) (vs 1).length (cp 1), .int .i64 (ws 2), .int .i64 (hs 2), .slice (ad 2) (vs 2).length (cp 2), .int .i64 (ws 3), .int .i64 (hs 3), .slice (ad 3) (vs 3).length (cp 3)] 41) = v1 at *
  have b2 := below_al v1 (.cells #[.int .i64 (ws 0), .int .i64 (hs 0), .slice (ad' 0) (vs 0).length (cp' 0), .int .i64 (ws 1), .int .i64 (hs 1), .slice (ad' 1) (vs 1).length (cp' 1), .int .i64 (ws 2), .int .i64 (hs 2), .slice (ad' 2) (vs 2).length (cp' 2), .int .i64 (ws 3), .int .i64 (hs 3), .slice (ad' 3) (vs 3).length (cp' 3)] 41)
  have p2 := P12.new v1 ws hs ad' cp' vs 41
  rw [s1] at p2
  have P1 := Lib.hid (p1.later b2)
  have P2 := Lib.hid p2
  have G := Lib.hid (below_on b1 b2)
  have N1 := Lib.hid (hN.later (below_on b1 b2))
  have N2 := Lib.hid (hN'.later (below_on b1 b2))
  have HL := Lib.hid hl
  clear b1 b2 p1 p2 s1 hN hN' hl
  generalize hv2 : v1.alloc (.cells #[.int .i64 (ws 0), .int .i64 (hs 0), .slice (ad' 0) (vs 0).length (cp' 0), .int .i64 (ws 1), .int .i64 (hs 1), .slice (ad' 1) (vs 1).length (cp' 1), .int .i64 (ws 2), .int .i64 (hs 2), .slice (ad' 2) (vs 2).length (cp' 2), .int .i64 (ws 3), .int .i64 (hs 3), .slice (ad' 3) (vs 3).length (cp' 3)] 41) = v2 at *
  clear hv2 v1
  generalize hsz : w.heap.size = sz at *
  have HSZ := Lib.hid hsz
  clear hsz
  go_wp2_with fail
  go_loopw [5] (fun i wr => ∃ j : Nat, j ≤ 4 ∧ i = .int .i64 j ∧ Hid (Below v2.heap.size v2 wr)) (fun i _ => 4 - (intOf i).toNat)
  case atStart => exact ⟨0, by omega, rfl, Lib.hid (Below.refl _ _)⟩
  case round =>
    obtain ⟨j, hj, rfl, HW⟩ := hrel
    by_cases hlt : j < 4
    · have q1 : (0 : Int) ≤ (j : Int) := by omega
      have q2 : (j : Int) < 4 := by omega
      obtain ⟨c0, c1, c2⟩ := p12_at (P1.out.later HW.out) hlt
      obtain ⟨e0, e1, e2⟩ := p12_at (P2.out.later HW.out) hlt
      have n6 := HL.out j hlt
      have X1 := Lib.hid (N1.out.later HW.out j hlt)
      have X2 := Lib.hid (N2.out.later HW.out j hlt)
      generalize vs j = l at *
      generalize ws j = wj at *
      generalize hs j = hj' at *
      generalize ad j = aj at *
      generalize cp j = cj at *
      generalize ad' j = aj' at *
      generalize cp' j = cj' at *
      go_upto_region 4 with fail
      have L0 := fun m : Later wr => m.cell c0
      have L1 := fun m : Later wr => m.cell c1
      have L2 := fun m : Later wr => m.cell c2
      have L3 := fun m : Later wr => m.cell e0
      have L4 := fun m : Later wr => m.cell e1
      have L5 := fun m : Later wr => m.cell e2
      refine region_later (by kernel_rfl) (by kernel_rfl) ?_
      iterate 33 (go_big_quiet_want; go_big_quiet_op; go_big_quiet_on)
      refine wpQuiet_nil ?_
      refine later_end ?_
      intro m
      have HW1 := Lib.hid (below_on HW.out m.below)
      have Y1 := Lib.hid (X1.out.later m.below)
      have Y2 := Lib.hid (X2.out.later m.below)
      have c2 := cell_on c2 m.below
      have e2 := cell_on e2 m.below
      clear L0 L1 L2 L3 L4 L5 X1 X2 HW c0 c1 e0 e1
      generalize m.wd = w3 at *
      clear m
      go_wp2_with fail
      go_loopw [6] (fun i wr => ∃ k : Nat, k ≤ l.length ∧ i = .int .i64 k ∧ Hid (Below w3.heap.size w3 wr)) (fun i _ => l.length - (intOf i).toNat)
      case atStart => exact ⟨0, by omega, rfl, Lib.hid (Below.refl _ _)⟩
      case round =>
        obtain ⟨k, hk, rfl, HQ⟩ := hrel
        have c2 := cell_on c2 HQ.out
        have e2 := cell_on e2 HQ.out
        by_cases hkl : k < l.length
        · obtain ⟨b1, o1, rfl, -, g1⟩ := (Y1.out.later HQ.out) (by omega)
          obtain ⟨b2, o2, rfl, -, g2⟩ := (Y2.out.later HQ.out) (by omega)
          have u1 : wr.cell? ⟨b1, o1 + k, none⟩ = some (.int .i64 l[k]) := g1 k hkl
          have u2 : wr.cell? ⟨b2, o2 + k, none⟩ = some (.int .i64 l[k]) := g2 k hkl
          have q3 : (0 : Int) ≤ (k : Int) := by omega
          have q4 : (k : Int) < (l.length : Int) := by omega
          clear g1 g2
          generalize l[k] = z at *
          go_upto_region 9 with fail
          have L1 := fun m : Later wr => m.cell u1
          have L2 := fun m : Later wr => m.cell u2
          have L3 := fun m : Later wr => m.cell c2
          have L4 := fun m : Later wr => m.cell e2
          refine region_later (by kernel_rfl) (by kernel_rfl) ?_
          iterate 15 (go_big_quiet_want; go_big_quiet_op; go_big_quiet_on)
          refine wpQuiet_nil ?_
          refine later_end ?_
          intro m
          have HQ2 := Lib.hid (below_on HQ.out m.below)
          clear L1 L2 L3 L4 HQ u1 u2 c2 e2
          generalize m.wd = w4 at *
          clear m
          go_wp2
          go_roundw
          case rel => exact ⟨k + 1, by omega, by go_num, HQ2⟩
          case measure => simp [intOf] <;> omega
        · have HW2 := Lib.hid (below_on HW1.out HQ.out)
          clear HQ HW1
          go_wp2
          go_roundw
          case rel => exact ⟨j + 1, by omega, by go_num, HW2⟩
          case measure => simp [intOf] <;> omega
    · have G4 := Lib.hid (G.out.trans (HW.out.mono (by have := G.out.size; have := HSZ.out; omega)))
      clear HW
      go_wp2
      go_ret
      exact ⟨rfl, by rw [HSZ.out]; exact G4.out⟩
end Go.Proofs.Ytjclioakdmilmaa
