/- The contract of the reference's peak (mapsheetsref43). -/
import Derived.Test.YthgdmcjahldihaaTerI
import Derived.Test.YthgdmcjahldihaaRelD
import Derived.Test.YthgdmcjahldihaaLater
namespace Go.Proofs.Ythgdmcjahldihaa
open Go.RowKit
set_option linter.unusedVariables false
set_option maxHeartbeats 1000000 in
theorem rpeak_any (x y S : Int) (b off n c m q k r : Nat) (z : Nat → Int) (w : World) (hn : n ≤ 4200) (hb : b < w.heap.size) (hA : ∀ j, j < n → w.cell? ⟨b, off + j, none⟩ = some (.int .i64 (z j)))
    (hm : 2 ≤ m) (hm' : m ≤ 64) (hq' : q ≤ 64) (hmq : n = m * q) (hk : k < m) (hr : r < q) :
    Calls Try.prog 53 #[hgt x y m q S (some ⟨b, off, none⟩) n c, .int .i64 k, .int .i64 r] w fun e w' => e = .returned (.bool (Ter.pkB z m q k r)) ∧ Below w.heap.size w w' := by
  have HL : Hid (∀ r' c', r' < q → c' < m → r' * m + c' < n) := Lib.hid fun r' c' h h' => by
    have h1 : (r' + 1) * m ≤ q * m := Nat.mul_le_mul_right m (by omega)
    rw [Nat.add_mul] at h1
    rw [hmq, Nat.mul_comm m q]; omega
  have HX := Lib.hid hA
  clear hmq hA
  unfold hgt
  go_enter Try.func53, Try.ntmps53
  go_wp2_with fail
  have hw0 : ∃ w0, w0 = w.alloc (.cells #[.int .i64 x, .int .i64 y, .int .i64 m, .int .i64 q, .int .i64 S, .slice (some ⟨b, off, none⟩) n c] 26) := ⟨_, rfl⟩
  obtain ⟨w0, hw0⟩ := hw0
  have HW0 := Lib.hid hw0
  rw [← hw0]
  clear hw0
  have hs0 : w.heap.size < w0.heap.size := by rw [HW0.out]; simp
  have hbs0 : b < w0.heap.size := by omega
  have F0 : Hid (Below w.heap.size w w0) := Lib.hid (by rw [HW0.out]; exact below_box _ _)
  go_loopw [7] (fun i wr => ∃ c' : Int, (k : Int) - 1 ≤ c' ∧ c' ≤ (k : Int) + 2 ∧ i = .int .i64 c' ∧ Hid (∀ c'' r'' : Nat, (c'' : Int) < c' → c'' < m → r'' < q → ¬ Ter.Bad z m q k r c'' r'') ∧ Hid (Below w0.heap.size w0 wr)) (fun i _ => ((k : Int) + 2 - intOf i).toNat)
  case atStart =>
    exact ⟨(k : Int) - 1, by omega, by omega, rfl, Lib.hid fun c'' r'' h _ _ hb => by unfold Ter.Bad at hb; omega, Lib.hid (Below.refl _ _)⟩
  case round =>
    obtain ⟨c', p1, p2, rfl, HB, HW⟩ := hrel
    by_cases hlt : c' ≤ (k : Int) + 1
    · go_wp2_with fail
      go_loopw [8] (fun i wr => ∃ r' : Int, (r : Int) - 1 ≤ r' ∧ r' ≤ (r : Int) + 2 ∧ i = .int .i64 r' ∧ Hid (∀ c'' r'' : Nat, (c'' : Int) = c' → (r'' : Int) < r' → c'' < m → r'' < q → ¬ Ter.Bad z m q k r c'' r'') ∧ Hid (Below w0.heap.size w0 wr)) (fun i _ => ((r : Int) + 2 - intOf i).toNat)
      case atStart =>
        exact ⟨(r : Int) - 1, by omega, by omega, rfl, Lib.hid fun c'' r'' _ h _ _ hb => by unfold Ter.Bad at hb; omega, HW⟩
      case round =>
        clear HW
        obtain ⟨r', s1, s2, rfl, HB2, HW⟩ := hrel
        by_cases hlr : r' ≤ (r : Int) + 1
        · have bb : ∀ o, wr.cell? ⟨w.heap.size, o, none⟩ = (w.alloc (.cells #[.int .i64 x, .int .i64 y, .int .i64 m, .int .i64 q, .int .i64 S, .slice (some ⟨b, off, none⟩) n c] 26)).cell? ⟨w.heap.size, o, none⟩ := fun o => by
            rw [(bcell HW.out).1 _ _ hs0, HW0.out]
          have c0 : wr.cell? ⟨w.heap.size, 0, none⟩ = some (.int .i64 x) := by rw [bb]; simp
          have c1 : wr.cell? ⟨w.heap.size, 1, none⟩ = some (.int .i64 y) := by rw [bb]; simp
          have c2 : wr.cell? ⟨w.heap.size, 2, none⟩ = some (.int .i64 m) := by rw [bb]; simp
          have c3 : wr.cell? ⟨w.heap.size, 3, none⟩ = some (.int .i64 q) := by rw [bb]; simp
          have c4 : wr.cell? ⟨w.heap.size, 4, none⟩ = some (.int .i64 S) := by rw [bb]; simp
          have c5 : wr.cell? ⟨w.heap.size, 5, none⟩ = some (.slice (some ⟨b, off, none⟩) n c) := by rw [bb]; simp
          clear bb
          have FW := Lib.hid (below_step F0.out HW.out)
          by_cases hin : (0 ≤ c' ∧ c' < (m : Int)) ∧ 0 ≤ r' ∧ r' < (q : Int)
          · obtain ⟨cn, rfl⟩ := Int.eq_ofNat_of_zero_le hin.1.1
            obtain ⟨rn, rfl⟩ := Int.eq_ofNat_of_zero_le hin.2.1
            have hcn : cn < m := by omega
            have hrn : rn < q := by omega
            have h1 := HL.out rn cn hrn hcn
            have h2 := HL.out r k hr hk
            obtain ⟨rm, hrm, hrm2⟩ : ∃ rm : Nat, (rn : Int) * (m : Int) = (rm : Int) ∧ rm = rn * m := ⟨rn * m, by push_cast; rfl, rfl⟩
            obtain ⟨rs, hrs, hrs2⟩ : ∃ rs : Nat, (r : Int) * (m : Int) = (rs : Int) ∧ rs = r * m := ⟨r * m, by push_cast; rfl, rfl⟩
            obtain ⟨i1, hi1⟩ : ∃ i1 : Nat, rm + cn = i1 := ⟨_, rfl⟩
            obtain ⟨i2, hi2⟩ : ∃ i2 : Nat, rs + k = i2 := ⟨_, rfl⟩
            have d1 : wr.cell? ⟨b, off + i1, none⟩ = some (.int .i64 (z i1)) := cell_in FW.out (HX.out i1 (by omega)) hb
            have d2 : wr.cell? ⟨b, off + i2, none⟩ = some (.int .i64 (z i2)) := cell_in FW.out (HX.out i2 (by omega)) hb
            have a1 : IntKind.i64.wrap ((rn : Int) * (m : Int)) = (rm : Int) := by rw [hrm]; exact IntWalk.i64_in _ (by omega)
            have a2 : IntKind.i64.wrap ((rm : Int) + (cn : Int)) = (i1 : Int) := by rw [show (rm : Int) + cn = i1 by omega]; exact IntWalk.i64_in _ (by omega)
            have a3 : IntKind.i64.wrap ((r : Int) * (m : Int)) = (rs : Int) := by rw [hrs]; exact IntWalk.i64_in _ (by omega)
            have a4 : IntKind.i64.wrap ((rs : Int) + (k : Int)) = (i2 : Int) := by rw [show (rs : Int) + k = i2 by omega]; exact IntWalk.i64_in _ (by omega)
            have v0 : (0 : Int) ≤ (i1 : Int) := by omega
            have v1 : (i1 : Int) < (n : Int) := by omega
            have v2 : (0 : Int) ≤ (i2 : Int) := by omega
            have v3 : (i2 : Int) < (n : Int) := by omega
            have E1 := Lib.hid (show i1 = rn * m + cn by omega)
            have E2 := Lib.hid (show i2 = r * m + k by omega)
            clear h1 h2 hrm hrm2 hrs hrs2 hi1 hi2 hin
            by_cases hself : cn = k ∧ rn = r
            · have u1 : ((cn : Int) != (k : Int)) = false := by simp; omega
              have u2 : ((rn : Int) != (r : Int)) = false := by simp; omega
              have u3 : (cn != k) = false := by simp; omega
              have u4 : (rn != r) = false := by simp; omega
              have HSF := Lib.hid hself
              clear hself
              have L0 := fun v : Later wr => v.cell c0
              have L1 := fun v : Later wr => v.cell c1
              have L2 := fun v : Later wr => v.cell c2
              have L3 := fun v : Later wr => v.cell c3
              have L4 := fun v : Later wr => v.cell c4
              have L5 := fun v : Later wr => v.cell c5
              have M1 := fun v : Later wr => v.cell d1
              have M2 := fun v : Later wr => v.cell d2
              have TH := Lib.hid (fun u => there_yes x y m q S (some ⟨b, off, none⟩) n c cn rn u (by omega) (by omega) (by omega) (by omega))
              go_wp2_with fail
              refine region_later (by kernel_rfl) (by kernel_rfl) ?_
              repeat (first | go_big_quiet_skip | (go_big_quiet_want; go_big_quiet_op; first | go_big_quiet_on | go_big_quiet_call (exact later_of (TH.out _))))
              refine wpQuiet_nil ?_
              refine later_end ?_
              intro v
              have KB := Lib.hid (below_step HW.out v.below)
              clear L0 L1 L2 L3 L4 L5 c0 c1 c2 c3 c4 c5 TH M1 M2 d1 d2
              generalize v.wd = wv at *
              go_wp2
              go_roundw
              case rel => exact ⟨(rn : Int) + 1, by omega, by omega, rfl, Lib.hid fun c'' r'' h h' h3 h4 hb => if e : (r'' : Int) < rn then HB2.out c'' r'' h e h3 h4 hb else by unfold Ter.Bad at hb; have := HSF.out; omega, KB⟩
              case measure => simp [intOf] <;> omega
            · have HSF := Lib.hid hself
              rcases (show (((cn : Int) != (k : Int)) = true ∧ (cn != k) = true) ∨ (((cn : Int) != (k : Int)) = false ∧ (cn != k) = false ∧ ((rn : Int) != (r : Int)) = true ∧ (rn != r) = true) by
                by_cases e : cn = k
                · right; refine ⟨by simp; omega, by simp; omega, by simp; omega, by simp; omega⟩
                · left; refine ⟨by simp; omega, by simp; omega⟩) with ⟨u1, u3⟩ | ⟨u1, u3, u2, u4⟩
              all_goals
                clear hself
                by_cases hz : z i2 ≤ z i1
                · have L0 := fun v : Later wr => v.cell c0
                  have L1 := fun v : Later wr => v.cell c1
                  have L2 := fun v : Later wr => v.cell c2
                  have L3 := fun v : Later wr => v.cell c3
                  have L4 := fun v : Later wr => v.cell c4
                  have L5 := fun v : Later wr => v.cell c5
                  have M1 := fun v : Later wr => v.cell d1
                  have M2 := fun v : Later wr => v.cell d2
                  have TH := Lib.hid (fun u => there_yes x y m q S (some ⟨b, off, none⟩) n c cn rn u (by omega) (by omega) (by omega) (by omega))
                  go_wp2_with fail
                  refine region_later (by kernel_rfl) (by kernel_rfl) ?_
                  repeat (first | go_big_quiet_skip | (go_big_quiet_want; go_big_quiet_op; first | go_big_quiet_on | go_big_quiet_call (exact later_of (TH.out _))))
                  refine wpQuiet_nil ?_
                  refine later_end ?_
                  intro v
                  have KB := Lib.hid (below_step HW.out v.below)
                  clear L0 L1 L2 L3 L4 L5 c0 c1 c2 c3 c4 c5 TH M1 M2 d1 d2
                  generalize v.wd = wv at *
                  have F9 := Lib.hid (below_step F0.out KB.out)
                  have HP := Lib.hid (Ter.pk_no (z := z) (m := m) (q := q) (k := k) (r := r) (c' := cn) (r' := rn) hrn hcn ⟨⟨by omega, by omega⟩, ⟨by omega, by omega⟩, HSF.out, by rw [← E1.out, ← E2.out]; exact hz⟩)
                  go_wp2
                  go_ret
                  exact ⟨ret_b HP.out.symm, F9.out⟩
                · have hz' : decide (z i2 ≤ z i1) = false := by simp; omega
                  have L0 := fun v : Later wr => v.cell c0
                  have L1 := fun v : Later wr => v.cell c1
                  have L2 := fun v : Later wr => v.cell c2
                  have L3 := fun v : Later wr => v.cell c3
                  have L4 := fun v : Later wr => v.cell c4
                  have L5 := fun v : Later wr => v.cell c5
                  have M1 := fun v : Later wr => v.cell d1
                  have M2 := fun v : Later wr => v.cell d2
                  have TH := Lib.hid (fun u => there_yes x y m q S (some ⟨b, off, none⟩) n c cn rn u (by omega) (by omega) (by omega) (by omega))
                  go_wp2_with fail
                  refine region_later (by kernel_rfl) (by kernel_rfl) ?_
                  repeat (first | go_big_quiet_skip | (go_big_quiet_want; go_big_quiet_op; first | go_big_quiet_on | go_big_quiet_call (exact later_of (TH.out _))))
                  refine wpQuiet_nil ?_
                  refine later_end ?_
                  intro v
                  have KB := Lib.hid (below_step HW.out v.below)
                  clear L0 L1 L2 L3 L4 L5 c0 c1 c2 c3 c4 c5 TH M1 M2 d1 d2
                  generalize v.wd = wv at *
                  have F9 := Lib.hid (below_step F0.out KB.out)
                  go_wp2
                  go_roundw
                  case rel => exact ⟨(rn : Int) + 1, by omega, by omega, rfl, Lib.hid fun c'' r'' h h' h3 h4 hb => if e : (r'' : Int) < rn then HB2.out c'' r'' h e h3 h4 hb else by
                    (obtain rfl : r'' = rn := by omega)
                    (obtain rfl : c'' = cn := by omega)
                    have := hb.2.2.2; rw [← E1.out, ← E2.out] at this; omega, KB⟩
                  case measure => simp [intOf] <;> omega
          · have HIN := Lib.hid hin
            clear hin
            have L0 := fun v : Later wr => v.cell c0
            have L1 := fun v : Later wr => v.cell c1
            have L2 := fun v : Later wr => v.cell c2
            have L3 := fun v : Later wr => v.cell c3
            have L4 := fun v : Later wr => v.cell c4
            have L5 := fun v : Later wr => v.cell c5
            have TH := Lib.hid (fun u => there_no x y m q S (some ⟨b, off, none⟩) n c c' r' u HIN.out)
            go_wp2_with fail
            refine region_later (by kernel_rfl) (by kernel_rfl) ?_
            repeat (first | go_big_quiet_skip | (go_big_quiet_want; go_big_quiet_op; first | go_big_quiet_on | go_big_quiet_call (exact later_of (TH.out _))))
            refine wpQuiet_nil ?_
            refine later_end ?_
            intro v
            have KB := Lib.hid (below_step HW.out v.below)
            clear L0 L1 L2 L3 L4 L5 c0 c1 c2 c3 c4 c5 TH
            generalize v.wd = wv at *
            go_wp2
            go_roundw
            case rel => exact ⟨r' + 1, by omega, by omega, rfl, Lib.hid fun c'' r'' h h' h3 h4 hb => if e : (r'' : Int) < r' then HB2.out c'' r'' h e h3 h4 hb else by
              exact HIN.out ⟨⟨by omega, by omega⟩, by omega, by omega⟩, KB⟩
            case measure => simp [intOf] <;> omega
        · have t1 : decide (r' ≤ (r : Int) + 1) = false := by simp; omega
          go_wp2
          go_roundw
          case rel => exact ⟨c' + 1, by omega, by omega, rfl, Lib.hid fun c'' r'' h h3 h4 hb => if e : (c'' : Int) < c' then HB.out c'' r'' e h3 h4 hb else by
            by_cases e2 : (r'' : Int) < r'
            · exact HB2.out c'' r'' (by omega) e2 h3 h4 hb
            · have h1 := hb.1; omega, HW⟩
          case measure => simp [intOf] <;> omega
    · have t0 : decide (c' ≤ (k : Int) + 1) = false := by simp; omega
      have HP : Hid (Ter.pkB z m q k r = true) := Lib.hid (Ter.pk_yes fun r'' h1 c'' h2 hbad => if e : (c'' : Int) < c' then HB.out c'' r'' e h2 h1 hbad else by have := hbad.2.1; omega)
      have F2 := Lib.hid (below_step F0.out HW.out)
      clear hlt
      go_wp2
      go_ret
      exact ⟨ret_b HP.out.symm, F2.out⟩
end Go.Proofs.Ythgdmcjahldihaa
