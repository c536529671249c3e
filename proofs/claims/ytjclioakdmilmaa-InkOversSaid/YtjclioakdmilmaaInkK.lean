/- The contracts of ink.side and ink.check. -/
import Derived.Test.YtjclioakdmilmaaInkJ
import Derived.Test.YtjclioakdmilmaaInkPlainD
import Derived.Test.YtjclioakdmilmaaNumK
namespace Go.Proofs.Ytjclioakdmilmaa
open Go.RowKit
open Num Ink
set_option linter.unusedVariables false
set_option maxHeartbeats 1000000 in
theorem side_any (n : Int) (w : World) : Calls Try.prog 32 #[.int .i64 n] w fun e w' => e = .returned (.bool (sideB n)) ∧ Below w.heap.size w w' := by
  by_cases h1 : 1 ≤ n
  · by_cases h2 : n ≤ 256
    · have e : sideB n = true := (sideB_iff n).2 ⟨h1, h2⟩
      have d1 : decide (1 ≤ n) = true := by simpa using h1
      have d2 : decide (n ≤ 256) = true := by simpa using h2
      rw [e]
      clear e
      go_enter Try.func32, Try.ntmps32
      go_wp2
      go_ret
      exact ⟨rfl, Below.refl _ _⟩
    · have e : sideB n = false := by cases h : sideB n; rfl; exact absurd ((sideB_iff n).1 h).2 h2
      have d1 : decide (1 ≤ n) = true := by simpa using h1
      have d2 : decide (n ≤ 256) = false := by simpa using h2
      rw [e]
      clear e
      go_enter Try.func32, Try.ntmps32
      go_wp2
      go_ret
      exact ⟨rfl, Below.refl _ _⟩
  · have e : sideB n = false := by cases h : sideB n; rfl; exact absurd ((sideB_iff n).1 h).1 h1
    have d1 : decide (1 ≤ n) = false := by simpa using h1
    rw [e]
    clear e
    go_enter Try.func32, Try.ntmps32
    go_wp2
    go_ret
    exact ⟨rfl, Below.refl _ _⟩
/-- four plates -/
def pl4 (ws hs : Nat → Int) (ss : Nat → Value) : Value := .agg #[.int .i64 (ws 0), .int .i64 (hs 0), ss 0, .int .i64 (ws 1), .int .i64 (hs 1), ss 1, .int .i64 (ws 2), .int .i64 (hs 2), ss 2, .int .i64 (ws 3), .int .i64 (hs 3), ss 3]
theorem idx41_any (ws hs : Nat → Int) (ss : Nat → Value) (j : Nat) (hj : j < 4) (w : World) : (Instr.index 41 (.agg #[.int .i64 (ws 0), .int .i64 (hs 0), ss 0, .int .i64 (ws 1), .int .i64 (hs 1), ss 1, .int .i64 (ws 2), .int .i64 (hs 2), ss 2, .int .i64 (ws 3), .int .i64 (hs 3), ss 3]) (.int .i64 j)).run Try.prog w = .ok (.agg #[.int .i64 (ws j), .int .i64 (hs j), ss j]) w := by
  obtain rfl | rfl | rfl | rfl : j = 0 ∨ j = 1 ∨ j = 2 ∨ j = 3 := by omega
  all_goals kernel_rfl
/-- the cells of four plates in memory -/
def Ns4 (w : World) (ad : Nat → Option Addr) (vs : Nat → List Int) : Prop := ∀ i, i < 4 → Ns w w.heap.size (ad i) (vs i)
theorem Ns4.later {w u : World} {ad : Nat → Option Addr} {vs : Nat → List Int} (h : Ns4 w ad vs) (hb : Below w.heap.size w u) : Ns4 u ad vs := fun i hi => (h i hi).later hb
def P12 (v : World) (b : Nat) (ws hs : Nat → Int) (ad : Nat → Option Addr) (cp : Nat → Nat) (vs : Nat → List Int) : Prop := v.cell? ⟨b, 0, none⟩ = some (.int .i64 (ws 0)) ∧ v.cell? ⟨b, 1, none⟩ = some (.int .i64 (hs 0)) ∧ v.cell? ⟨b, 2, none⟩ = some (.slice (ad 0) (vs 0).length (cp 0)) ∧ v.cell? ⟨b, 3, none⟩ = some (.int .i64 (ws 1)) ∧ v.cell? ⟨b, 4, none⟩ = some (.int .i64 (hs 1)) ∧ v.cell? ⟨b, 5, none⟩ = some (.slice (ad 1) (vs 1).length (cp 1)) ∧ v.cell? ⟨b, 6, none⟩ = some (.int .i64 (ws 2)) ∧ v.cell? ⟨b, 7, none⟩ = some (.int .i64 (hs 2)) ∧ v.cell? ⟨b, 8, none⟩ = some (.slice (ad 2) (vs 2).length (cp 2)) ∧ v.cell? ⟨b, 9, none⟩ = some (.int .i64 (ws 3)) ∧ v.cell? ⟨b, 10, none⟩ = some (.int .i64 (hs 3)) ∧ v.cell? ⟨b, 11, none⟩ = some (.slice (ad 3) (vs 3).length (cp 3))
theorem P12.later {v u : World} {b : Nat} {ws hs : Nat → Int} {ad : Nat → Option Addr} {cp : Nat → Nat} {vs : Nat → List Int} (h : P12 v b ws hs ad cp vs) (hb : Below v.heap.size v u) : P12 u b ws hs ad cp vs := by
  obtain ⟨h0, h1, h2, h3, h4, h5, h6, h7, h8, h9, h10, h11⟩ := h
  exact ⟨cell_on h0 hb, cell_on h1 hb, cell_on h2 hb, cell_on h3 hb, cell_on h4 hb, cell_on h5 hb, cell_on h6 hb, cell_on h7 hb, cell_on h8 hb, cell_on h9 hb, cell_on h10 hb, cell_on h11 hb⟩
theorem P12.new (u : World) (ws hs : Nat → Int) (ad : Nat → Option Addr) (cp : Nat → Nat) (vs : Nat → List Int) (t : TypeId) : P12 (u.alloc (.cells #[.int .i64 (ws 0), .int .i64 (hs 0), .slice (ad 0) (vs 0).length (cp 0), .int .i64 (ws 1), .int .i64 (hs 1), .slice (ad 1) (vs 1).length (cp 1), .int .i64 (ws 2), .int .i64 (hs 2), .slice (ad 2) (vs 2).length (cp 2), .int .i64 (ws 3), .int .i64 (hs 3), .slice (ad 3) (vs 3).length (cp 3)] t)) u.heap.size ws hs ad cp vs := by
  unfold P12; simp
set_option maxRecDepth 100000 in
set_option maxHeartbeats 8000000 in
theorem icheck4_any (ws hs : Nat → Int) (ad : Nat → Option Addr) (cp : Nat → Nat) (vs : Nat → List Int) (w : World) (hN : Ns4 w ad vs) (hl : ∀ i, i < 4 → (vs i).length ≤ 65536) (hw : ∀ i, i < 4 → I64 (ws i)) (hh : ∀ i, i < 4 → I64 (hs i)) :
    Calls Try.prog 33 #[pl4 ws hs fun i => .slice (ad i) (vs i).length (cp i)] w fun e u => e = .returned (.int .i64 (errP ws hs vs)) ∧ Below w.heap.size w u := by
  have HN := Lib.hid hN
  have HL := Lib.hid hl
  have HW := Lib.hid hw
  have HH := Lib.hid hh
  have IX := Lib.hid (fun j hj v => idx41_any ws hs (fun i => .slice (ad i) (vs i).length (cp i)) j hj v)
  have HE : Hid (errP ws hs vs = if all4 (armP ws hs vs) = false then 1 else if (sideB (ws 0) && sideB (hs 0)) = false then 2 else if (all4 fun i => okL (vs i)) = false then 2 else 0) := Lib.hid rfl
  generalize errP ws hs vs = R at *
  clear hN hl hw hh
  unfold pl4
  go_enter Try.func33, Try.ntmps33
  go_wp2_with fail
  have b0 := below_al w (.cells #[.int .i64 (ws 0), .int .i64 (hs 0), .slice (ad 0) (vs 0).length (cp 0), .int .i64 (ws 1), .int .i64 (hs 1), .slice (ad 1) (vs 1).length (cp 1), .int .i64 (ws 2), .int .i64 (hs 2), .slice (ad 2) (vs 2).length (cp 2), .int .i64 (ws 3), .int .i64 (hs 3), .slice (ad 3) (vs 3).length (cp 3)] 41)
  have D0 := Lib.hid (P12.new w ws hs ad cp vs 41)
  have HN1 := Lib.hid (HN.out.later b0)
  have G0 := Lib.hid b0
  clear b0 HN
  generalize w.alloc (.cells #[.int .i64 (ws 0), .int .i64 (hs 0), .slice (ad 0) (vs 0).length (cp 0), .int .i64 (ws 1), .int .i64 (hs 1), .slice (ad 1) (vs 1).length (cp 1), .int .i64 (ws 2), .int .i64 (hs 2), .slice (ad 2) (vs 2).length (cp 2), .int .i64 (ws 3), .int .i64 (hs 3), .slice (ad 3) (vs 3).length (cp 3)] 41) = w1 at *
  go_loopw [12] (fun i wr => ∃ j : Nat, j ≤ 4 ∧ i = .int .i64 j ∧ Hid (∀ i, i < j → armP ws hs vs i = true) ∧ Hid (Below w1.heap.size w1 wr)) (fun i _ => 4 - (intOf i).toNat)
  case atStart => exact ⟨0, by omega, rfl, Lib.hid (fun i h => by omega), Lib.hid (Below.refl _ _)⟩
  case round =>
    obtain ⟨j, hj, rfl, HJ, HB⟩ := hrel
    by_cases hlt : j < 4
    · have q1 : (0 : Int) ≤ (j : Int) := by omega
      have q2 : (j : Int) < 4 := by omega
      have ix := fun v => IX.out j hlt v
      have HF : Hid (armP ws hs vs j = false → R = 1) := Lib.hid (fun h => HE.out.trans (if_pos (all4_false hlt h)))
      have HA : Hid (armP ws hs vs j = ((decide (ws j = ws 0) && decide (hs j = hs 0)) && decide (ws j * hs j = ((vs j).length : Int)))) := Lib.hid rfl
      have HT : Hid (armP ws hs vs j = true → ∀ i, i < j + 1 → armP ws hs vs i = true) := Lib.hid (fun h i hi => by
        by_cases e : i < j
        · exact HJ.out i e
        · obtain rfl : i = j := by omega
          exact h)
      have MD := Lib.hid (fun v => muldiv_any (ws j) (hs j) 1 v (HW.out j hlt) (HH.out j hlt) (by unfold I64; omega))
      have MP := Lib.hid (md_prod (ws j) (hs j))
      have n6 := HL.out j hlt
      obtain ⟨x0, x1, -⟩ := D0.out.later HB.out
      generalize armP ws hs vs j = A at *
      generalize mdV (ws j) (hs j) 1 = mv at *
      generalize mdE (ws j) (hs j) 1 = me at *
      generalize ws j = wj at *
      generalize hs j = hj' at *
      generalize (vs j).length = nj at *
      generalize ad j = aj at *
      generalize cp j = cj at *
      go_upto_region 4 with fail
      have bz := below_al wr (.cells #[.int .i64 wj, .int .i64 hj', .slice aj nj cj] 40)
      have p0 : (wr.alloc (.cells #[.int .i64 wj, .int .i64 hj', .slice aj nj cj] 40)).cell? ⟨wr.heap.size, 0, none⟩ = some (.int .i64 wj) := by simp
      have p1 : (wr.alloc (.cells #[.int .i64 wj, .int .i64 hj', .slice aj nj cj] 40)).cell? ⟨wr.heap.size, 1, none⟩ = some (.int .i64 hj') := by simp
      have p2 : (wr.alloc (.cells #[.int .i64 wj, .int .i64 hj', .slice aj nj cj] 40)).cell? ⟨wr.heap.size, 2, none⟩ = some (.slice aj nj cj) := by simp
      have x0 := cell_on x0 bz
      have x1 := cell_on x1 bz
      have HB1 := Lib.hid (below_on HB.out bz)
      clear bz HB ix
      generalize wr.alloc (.cells #[.int .i64 wj, .int .i64 hj', .slice aj nj cj] 40) = v2 at *
      generalize wr.heap.size = zb at *
      go_wp2_with fail
      refine (MD.out _).mono ?_
      rintro e v3 ⟨rfl, nd, hv3⟩
      have b3 : Below v2.heap.size v2 v3 := by rw [hv3]; exact below_dn (Below.refl _ _) nd
      have x0 := cell_on x0 b3
      have x1 := cell_on x1 b3
      have p0 := cell_on p0 b3
      have p1 := cell_on p1 b3
      have p2 := cell_on p2 b3
      have HB2 := Lib.hid (below_on HB1.out b3)
      clear hv3 b3 HB1 MD
      by_cases k1 : wj = ws 0
      · have d1 : (wj == ws 0) = true := by simpa using k1
        have d1' : (wj != ws 0) = false := by simpa using k1
        by_cases k2 : hj' = hs 0
        · have d2 : (hj' == hs 0) = true := by simpa using k2
          have d2' : (hj' != hs 0) = false := by simpa using k2
          by_cases k3 : wj * hj' = (nj : Int)
          · have e1 : me = 0 := by rw [MP.out.1, if_pos (by omega)]
            have e2 : mv = (nj : Int) := by rw [MP.out.2, if_pos (by omega)]; exact k3
            have hA : A = true := by rw [HA.out]; simp [k1.symm, k2.symm, k3]
            have HT2 := Lib.hid (HT.out hA)
            subst e1 e2
            clear HF HA HT MP k1 k2 k3 hA
            go_wp2
            go_roundw
            case rel => exact ⟨j + 1, by omega, by go_num, HT2, HB2⟩
            case measure => simp [intOf] <;> omega
          · have hR := HF.out (by rw [HA.out]; simp [k3])
            subst hR
            have G5 := Lib.hid (below_on G0.out HB2.out)
            by_cases k4 : me = 0
            · have d3 : (me == 0) = true := by simpa using k4
              have d3' : (me != 0) = false := by simpa using k4
              have k5 : ¬ mv = (nj : Int) := by
                have h1 := MP.out.1
                have h2 := MP.out.2
                by_cases hh : -9223372036854775808 ≤ wj * hj' ∧ wj * hj' ≤ 9223372036854775807
                · rw [if_pos hh] at h2; rw [h2]; exact k3
                · rw [if_neg hh] at h1; omega
              have d4 : (mv == (nj : Int)) = false := by simpa using k5
              have d4' : (mv != (nj : Int)) = true := by simpa using k5
              clear HF HA HT MP k1 k2 k3 k4 k5 HB2
              go_wp2
              go_ret
              exact ⟨rfl, G5.out⟩
            · have d3 : (me == 0) = false := by simpa using k4
              have d3' : (me != 0) = true := by simpa using k4
              clear HF HA HT MP k1 k2 k3 k4 HB2
              go_wp2
              go_ret
              exact ⟨rfl, G5.out⟩
        · have d2 : (hj' == hs 0) = false := by simpa using k2
          have d2' : (hj' != hs 0) = true := by simpa using k2
          have hR := HF.out (by rw [HA.out]; simp [k2])
          subst hR
          have G5 := Lib.hid (below_on G0.out HB2.out)
          clear HF HA HT MP k1 k2 HB2
          go_wp2
          go_ret
          exact ⟨rfl, G5.out⟩
      · have d1 : (wj == ws 0) = false := by simpa using k1
        have d1' : (wj != ws 0) = true := by simpa using k1
        have hR := HF.out (by rw [HA.out]; simp [k1])
        subst hR
        have G5 := Lib.hid (below_on G0.out HB2.out)
        clear HF HA HT MP k1 HB2
        go_wp2
        go_ret
        exact ⟨rfl, G5.out⟩
    · obtain rfl : j = 4 := by omega
      have hall : all4 (armP ws hs vs) = true := all4_true HJ.out
      have HE2 := Lib.hid (HE.out.trans (if_neg (by rw [hall]; simp)))
      obtain ⟨x0, x1, -⟩ := D0.out.later HB.out
      have D2 := Lib.hid (D0.out.later HB.out)
      have S1 := Lib.hid (fun v => side_any (ws 0) v)
      have S2 := Lib.hid (fun v => side_any (hs 0) v)
      have HN2 := Lib.hid (HN1.out.later HB.out)
      have G2 := Lib.hid (below_on G0.out HB.out)
      clear HE HJ hall HB HN1 G0 D0
      rw [show ((4 : Nat) : Int) = (4 : Int) from rfl]
      go_wp2_with fail
      refine (S1.out _).mono ?_
      rintro e v3 ⟨rfl, b3⟩
      have x1 := cell_on x1 b3
      have D3 := Lib.hid (D2.out.later b3)
      have HN3 := Lib.hid (HN2.out.later b3)
      have G3 := Lib.hid (below_on G2.out b3)
      clear b3 HN2 G2 S1 x0 D2
      cases e1 : sideB (ws 0)
      · have hR := HE2.out.trans (if_pos (by rw [e1]; rfl))
        subst hR
        clear HE2 e1 HN3 S2
        go_wp2
        go_ret
        exact ⟨rfl, G3.out⟩
      go_wp2_with fail
      refine (S2.out _).mono ?_
      rintro e v4 ⟨rfl, b4⟩
      have HN4 := Lib.hid (HN3.out.later b4)
      have D4 := Lib.hid (D3.out.later b4)
      have G4 := Lib.hid (below_on G3.out b4)
      clear HN3 G3 S2 x1 D3
      cases e2 : sideB (hs 0)
      · have hR := HE2.out.trans (if_pos (by rw [e1, e2]; rfl))
        subst hR
        clear HE2 e1 e2 HN4 b4
        go_wp2
        go_ret
        exact ⟨rfl, G4.out⟩
      have HE3 := Lib.hid (HE2.out.trans (if_neg (by rw [e1, e2]; simp)))
      clear HE2 e1 e2 b4
      obtain ⟨z0, z1, z2, z3, z4, z5, z6, z7, z8, z9, z10, z11⟩ := D4.out
      go_wp2_with fail
      clear z0 z1 z2 z3 z4 z5 z6 z7 z8 z9 z10 z11 D4
      go_loopw [62] (fun i wr => ∃ j : Nat, j ≤ 4 ∧ i = .int .i64 j ∧ Hid (∀ i, i < j → okL (vs i) = true) ∧ Hid (Below v4.heap.size v4 wr)) (fun i _ => 4 - (intOf i).toNat)
      case atStart => exact ⟨0, by omega, rfl, Lib.hid (fun i h => by omega), Lib.hid (Below.refl _ _)⟩
      case round =>
        obtain ⟨j, hj, rfl, HJ, HB⟩ := hrel
        by_cases hlt : j < 4
        · have q1 : (0 : Int) ≤ (j : Int) := by omega
          have q2 : (j : Int) < 4 := by omega
          have ix := fun v => IX.out j hlt v
          have HF : Hid (okL (vs j) = false → R = 2) := Lib.hid (fun h => HE3.out.trans (if_pos (all4_false hlt h)))
          have HT : Hid (okL (vs j) = true → ∀ i, i < j + 1 → okL (vs i) = true) := Lib.hid (fun h i hi => by
            by_cases e : i < j
            · exact HJ.out i e
            · obtain rfl : i = j := by omega
              exact h)
          have n6 := HL.out j hlt
          have NJ := Lib.hid (HN4.out j hlt)
          generalize vs j = l at *
          generalize ws j = wj at *
          generalize hs j = hj' at *
          generalize ad j = aj at *
          generalize cp j = cj at *
          have bz := below_al wr (.cells #[.int .i64 wj, .int .i64 hj', .slice aj l.length cj] 40)
          have HB1 := Lib.hid (below_on HB.out bz)
          have NJ1 := Lib.hid (NJ.out.later HB1.out)
          clear bz HB NJ
          go_wp2_with fail
          clear ix
          generalize wr.alloc (.cells #[.int .i64 wj, .int .i64 hj', .slice aj l.length cj] 40) = v5 at *
          generalize wr.heap.size = zb at *
          go_loopw [68] (fun i wr => ∃ k : Nat, k ≤ l.length ∧ i = .int .i64 k ∧ wr = v5 ∧ Hid (∀ m (hm : m < l.length), m < k → okI l[m] = true)) (fun i _ => l.length - (intOf i).toNat)
          case atStart => exact ⟨0, by omega, rfl, rfl, Lib.hid (fun m _ h => by omega)⟩
          case round =>
            obtain ⟨k, hk, rfl, hwr, HK⟩ := hrel
            subst hwr
            by_cases hkl : k < l.length
            · obtain ⟨nb, off, rfl, hnb, hc⟩ := NJ1.out (by omega)
              have u1 : wr.cell? ⟨nb, off + k, none⟩ = some (.int .i64 l[k]) := hc k hkl
              have q3 : (0 : Int) ≤ (k : Int) := by omega
              have q4 : (k : Int) < (l.length : Int) := by omega
              have HF2 : Hid (okI l[k] = false → R = 2) := Lib.hid (fun h => HF.out (okL_false hkl h))
              have HT2 : Hid (okI l[k] = true → ∀ m (hm : m < l.length), m < k + 1 → okI l[m] = true) := Lib.hid (fun h m hm hmk => by
                by_cases e : m < k
                · exact HK.out m hm e
                · obtain rfl : m = k := by omega
                  exact h)
              clear hc
              generalize l[k] = x at *
              by_cases hx : x < 0
              · have hR := HF2.out (by unfold okI; simp; omega)
                subst hR
                have d2 : decide (x < 0) = true := by simpa using hx
                have G6 := Lib.hid (below_on G4.out HB1.out)
                clear HF2 HT2 HF HT hx HK HJ
                go_wp2
                go_ret
                exact ⟨rfl, G6.out⟩
              · have d2 : decide (x < 0) = false := by simpa using hx
                by_cases hy : 100 < x
                · have hR := HF2.out (by unfold okI; simp; omega)
                  subst hR
                  have d3 : decide (100 < x) = true := by simpa using hy
                  have G6 := Lib.hid (below_on G4.out HB1.out)
                  clear HF2 HT2 HF HT hx hy HK HJ
                  go_wp2
                  go_ret
                  exact ⟨rfl, G6.out⟩
                · have d3 : decide (100 < x) = false := by simpa using hy
                  have HK2 := Lib.hid (HT2.out (by unfold okI; simp; omega))
                  clear HF2 HT2 hx hy HK
                  go_wp2
                  go_roundw
                  case rel => exact ⟨k + 1, by omega, by go_num, trivial, HK2⟩
                  case measure => simp [intOf] <;> omega
            · have hok : okL l = true := okL_true (fun m hm => HK.out m hm (by omega))
              have HT3 := Lib.hid (HT.out hok)
              clear HK HF HT hok HJ
              go_wp2
              go_roundw
              case rel => exact ⟨j + 1, by omega, by go_num, HT3, HB1⟩
              case measure => simp [intOf] <;> omega
        · obtain rfl : j = 4 := by omega
          have hall : (all4 fun i => okL (vs i)) = true := all4_true HJ.out
          have hR := HE3.out.trans (if_neg (by rw [hall]; simp))
          subst hR
          have G6 := Lib.hid (below_on G4.out HB.out)
          clear HE3 HJ hall HB
          go_wp2
          go_ret
          exact ⟨rfl, G6.out⟩
end Go.Proofs.Ytjclioakdmilmaa
