/- The contract of terrain.peak. -/
import Derived.Test.YthgdmcjahldihaaTerE
import Derived.Test.YthgdmcjahldihaaTerPlainE
namespace Go.Proofs.Ythgdmcjahldihaa
open Go.RowKit
set_option linter.unusedVariables false

theorem ret_b {a b : Bool} (h : a = b) : Ending.returned (.bool a) = .returned (.bool b) := by rw [h]
set_option maxHeartbeats 1000000 in
theorem peak_any (x y S : Int) (b off n c m q k r : Nat) (z : Nat → Int) (w : World) (hn : n ≤ 4200) (hcap : n ≤ c) (hcm : c ≤ maxLen) (hb : b < w.heap.size) (hA : ∀ j, j < n → w.cell? ⟨b, off + j, none⟩ = some (.int .i64 (z j)))
    (hm : 2 ≤ m) (hm' : m ≤ 64) (hq' : q ≤ 64) (hmq : n = m * q) (hk : k < m) (hr : r < q) :
    Calls Try.prog 52 #[hgt x y m q S (some ⟨b, off, none⟩) n c, .int .i64 k, .int .i64 r] w fun e w' => e = .returned (.bool (Ter.pkB z m q k r)) ∧ Below w.heap.size w w' := by
  have HL : Hid (∀ r', r' < q → (r' + 1) * m ≤ n) := Lib.hid fun r' h => by
    have h1 : (r' + 1) * m ≤ q * m := Nat.mul_le_mul_right m (by omega)
    rw [hmq, Nat.mul_comm m q]; exact h1
  have HX := Lib.hid hA
  clear hmq hA
  unfold hgt
  obtain ⟨rs, hrs, rs1, rs2⟩ : ∃ rs : Nat, (if (r : Int) - 1 < 0 then (0 : Int) else (r : Int) - 1) = (rs : Int) ∧ r ≤ rs + 1 ∧ rs ≤ r := ⟨r - 1, by split <;> omega, by omega, by omega⟩
  obtain ⟨ks, hks, ks1, ks2⟩ : ∃ ks : Nat, (if (k : Int) - 1 < 0 then (0 : Int) else (k : Int) - 1) = (ks : Int) ∧ k ≤ ks + 1 ∧ ks ≤ k := ⟨k - 1, by split <;> omega, by omega, by omega⟩
  obtain ⟨Mr, hMr, hMr1⟩ : ∃ Mr : Int, (if (q : Int) - 1 < (r : Int) + 1 then (q : Int) - 1 else (r : Int) + 1) = Mr ∧ ∀ j : Int, j ≤ Mr ↔ (j ≤ (r : Int) + 1 ∧ j + 1 ≤ (q : Int)) := ⟨_, rfl, fun j => by split <;> omega⟩
  obtain ⟨Mk, hMk, hMk1⟩ : ∃ Mk : Int, (if (m : Int) - 1 < (k : Int) + 1 then (m : Int) - 1 else (k : Int) + 1) = Mk ∧ ∀ j : Int, j ≤ Mk ↔ (j ≤ (k : Int) + 1 ∧ j + 1 ≤ (m : Int)) := ⟨_, rfl, fun j => by split <;> omega⟩
  have HMR := Lib.hid hMr1
  have HMK := Lib.hid hMk1
  clear hMr1 hMk1
  have d0 : (0 : Int) ≤ (k : Int) := by omega
  have d1 : (k : Int) < (m : Int) := by omega
  go_enter Try.func52, Try.ntmps52
  go_wp2_with fail
  refine (line_any x y q S b off n c m r _ hm hm' (by omega) (HL.out r hr) hn hcap hcm).mono ?_
  rintro e w1 ⟨rfl, hb1⟩
  have F1 := Lib.hid (below_step (below_box w _) hb1)
  have B1 := Lib.hid hb1
  have hs1 : w.heap.size < w1.heap.size := by have := hb1.size; simp at this; omega
  have hl0 := HL.out r hr
  rw [Nat.add_mul] at hl0
  have e0 : w1.cell? ⟨b, off + r * m + k, none⟩ = some (.int .i64 (z (r * m + k))) := by
    rw [Nat.add_assoc]; exact cell_in F1.out (HX.out (r * m + k) (by omega)) hb
  clear hb1 hl0
  go_wp2_with fail
  clear e0
  go_loopw [8] (fun i wr => ∃ r' : Nat, r ≤ r' + 1 ∧ r' ≤ r + 2 ∧ r' ≤ q ∧ i = .int .i64 r' ∧ Hid (∀ r'' c'', r'' < r' → c'' < m → ¬ Ter.Bad z m q k r c'' r'') ∧ Hid (Below w1.heap.size w1 wr)) (fun i _ => r + 2 - (intOf i).toNat)
  case atStart =>
    exact ⟨rs, by omega, by omega, by omega, rfl, Lib.hid fun r'' c'' h _ hb => by unfold Ter.Bad at hb; omega, Lib.hid (Below.refl _ _)⟩
  case round =>
    obtain ⟨r', p1, p2, p3, rfl, HB, HW⟩ := hrel
    have bb : ∀ o, wr.cell? ⟨w.heap.size, o, none⟩ = (w.alloc (.cells #[.int .i64 x, .int .i64 y, .int .i64 m, .int .i64 q, .int .i64 S, .slice (some ⟨b, off, none⟩) n c] 26)).cell? ⟨w.heap.size, o, none⟩ := fun o => by
      rw [(bcell HW.out).1 _ _ hs1, (bcell B1.out).1 _ _ (by simp)]
    by_cases hlt : r' ≤ r + 1 ∧ r' + 1 ≤ q
    · obtain ⟨hlt1, hlt2⟩ := hlt
      have t0 : decide ((r' : Int) ≤ Mr) = true := decide_eq_true ((HMR.out _).2 ⟨by omega, by omega⟩)
      go_wp2_with fail
      clear bb t0
      go_loopw [9] (fun i wr => ∃ c' : Nat, k ≤ c' + 1 ∧ c' ≤ k + 2 ∧ c' ≤ m ∧ i = .int .i64 c' ∧ Hid (∀ c'', c'' < c' → ¬ Ter.Bad z m q k r c'' r') ∧ Hid (Below w1.heap.size w1 wr)) (fun i _ => k + 2 - (intOf i).toNat)
      case atStart =>
        exact ⟨ks, by omega, by omega, by omega, rfl, Lib.hid fun c'' h hb => by unfold Ter.Bad at hb; omega, HW⟩
      case round =>
        clear HW
        rename_i wq _
        obtain ⟨c', s1, s2, s3, rfl, HB2, HW⟩ := hrel
        have bb : ∀ o, wr.cell? ⟨w.heap.size, o, none⟩ = (w.alloc (.cells #[.int .i64 x, .int .i64 y, .int .i64 m, .int .i64 q, .int .i64 S, .slice (some ⟨b, off, none⟩) n c] 26)).cell? ⟨w.heap.size, o, none⟩ := fun o => by
          rw [(bcell HW.out).1 _ _ hs1, (bcell B1.out).1 _ _ (by simp)]
        by_cases hlc : c' ≤ k + 1 ∧ c' + 1 ≤ m
        · obtain ⟨hlc1, hlc2⟩ := hlc
          have t1 : decide ((c' : Int) ≤ Mk) = true := decide_eq_true ((HMK.out _).2 ⟨by omega, by omega⟩)
          by_cases hself : c' = k ∧ r' = r
          · obtain ⟨rfl, rfl⟩ := hself
            go_wp2
            go_roundw
            case rel => exact ⟨c' + 1, by omega, by omega, by omega, by go_num, Lib.hid fun c'' h hb => if e : c'' < c' then HB2.out c'' e hb else by unfold Ter.Bad at hb; omega, HW⟩
            case measure => simp [intOf] <;> omega
          · have hl1 := HL.out r' (by omega)
            have g0 : (0 : Int) ≤ (c' : Int) := by omega
            have g1 : (c' : Int) < (m : Int) := by omega
            have HSF := Lib.hid hself
            by_cases hck : c' = k
            · have u1 : ((c' : Int) != (k : Int)) = false := by simp; omega
              have u2 : ((r' : Int) != (r : Int)) = true := by simp; omega
              have u3 : (c' != k) = false := by simp; omega
              have u4 : (r' != r) = true := by simp; omega
              have HCK := Lib.hid hck
              clear hck hself
              go_wp2_with fail
              refine (line_any x y q S b off n c m r' _ hm hm' (by omega) hl1 hn hcap hcm).mono ?_
              rintro e w2 ⟨rfl, hb2⟩
              have HW2 := Lib.hid (below_step HW.out hb2)
              have F2 := Lib.hid (below_step F1.out HW2.out)
              have e2 : w2.cell? ⟨b, off + r' * m + c', none⟩ = some (.int .i64 (z (r' * m + c'))) := by
                rw [Nat.add_mul] at hl1
                rw [Nat.add_assoc]; exact cell_in F2.out (HX.out (r' * m + c') (by omega)) hb
              clear hb2 bb hl1
              by_cases hz : z (r * m + k) ≤ z (r' * m + c')
              · have HP := Lib.hid (Ter.pk_no (z := z) (m := m) (q := q) (k := k) (r := r) (c' := c') (r' := r') (by omega) (by omega) ⟨⟨by omega, by omega⟩, ⟨by omega, by omega⟩, HSF.out, hz⟩)
                go_wp2
                go_ret
                exact ⟨ret_b HP.out.symm, F2.out⟩
              · have hz' : decide (z (r * m + k) ≤ z (r' * m + c')) = false := by simp; omega
                go_wp2
                go_roundw
                case rel => exact ⟨c' + 1, by omega, by omega, by omega, by go_num, Lib.hid fun c'' h hb => if e : c'' < c' then HB2.out c'' e hb else by (obtain rfl : c'' = c' := by omega); have := hb.2.2.2; omega, HW2⟩
                case measure => simp [intOf] <;> omega
            · have u1 : ((c' : Int) != (k : Int)) = true := by simp; omega
              have u3 : (c' != k) = true := by simp; omega
              clear hck hself
              go_wp2_with fail
              refine (line_any x y q S b off n c m r' _ hm hm' (by omega) hl1 hn hcap hcm).mono ?_
              rintro e w2 ⟨rfl, hb2⟩
              have HW2 := Lib.hid (below_step HW.out hb2)
              have F2 := Lib.hid (below_step F1.out HW2.out)
              have e2 : w2.cell? ⟨b, off + r' * m + c', none⟩ = some (.int .i64 (z (r' * m + c'))) := by
                rw [Nat.add_mul] at hl1
                rw [Nat.add_assoc]; exact cell_in F2.out (HX.out (r' * m + c') (by omega)) hb
              clear hb2 bb hl1
              by_cases hz : z (r * m + k) ≤ z (r' * m + c')
              · have HP := Lib.hid (Ter.pk_no (z := z) (m := m) (q := q) (k := k) (r := r) (c' := c') (r' := r') (by omega) (by omega) ⟨⟨by omega, by omega⟩, ⟨by omega, by omega⟩, HSF.out, hz⟩)
                go_wp2
                go_ret
                exact ⟨ret_b HP.out.symm, F2.out⟩
              · have hz' : decide (z (r * m + k) ≤ z (r' * m + c')) = false := by simp; omega
                go_wp2
                go_roundw
                case rel => exact ⟨c' + 1, by omega, by omega, by omega, by go_num, Lib.hid fun c'' h hb => if e : c'' < c' then HB2.out c'' e hb else by (obtain rfl : c'' = c' := by omega); have := hb.2.2.2; omega, HW2⟩
                case measure => simp [intOf] <;> omega
        · have t1 : decide ((c' : Int) ≤ Mk) = false := decide_eq_false fun hx => by have := (HMK.out _).1 hx; omega
          have HLC := Lib.hid hlc
          clear hlc
          go_wp2
          go_roundw
          case rel => exact ⟨r' + 1, by omega, by omega, by omega, by go_num, Lib.hid fun r'' c'' h hcm hb => if e : r'' < r' then HB.out r'' c'' e hcm hb else by
            (obtain rfl : r'' = r' := by omega)
            by_cases e2 : c'' < c'
            · exact HB2.out c'' e2 hb
            · have h1 := hb.2.1; have h2 := HLC.out; omega, HW⟩
          case measure => simp [intOf] <;> omega
    · have t0 : decide ((r' : Int) ≤ Mr) = false := decide_eq_false fun hx => by have := (HMR.out _).1 hx; omega
      have HP : Hid (Ter.pkB z m q k r = true) := Lib.hid (Ter.pk_yes fun r'' h1 c'' h2 hbad => if e : r'' < r' then HB.out r'' c'' e h2 hbad else by have := hbad.1; omega)
      have F2 := Lib.hid (below_step F1.out HW.out)
      clear hlt
      go_wp2
      go_ret
      exact ⟨ret_b HP.out.symm, F2.out⟩
end Go.Proofs.Ythgdmcjahldihaa
