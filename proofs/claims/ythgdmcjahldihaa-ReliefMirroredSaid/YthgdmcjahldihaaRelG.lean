/- The contract of relief.All. -/
import Derived.Test.YthgdmcjahldihaaRelF
namespace Go.Proofs.Ythgdmcjahldihaa
open Go.RowKit
set_option linter.unusedVariables false

theorem Try.infoInt : (Try.prog.info? 3).map (fun i => (i.zero, i.size, i.bytes)) = some (some (.int .i64 0), 1, 8) := by kernel_rfl
/-- what All returns for a grid without an error -/
def PlateOut (p q : Int) (N : Nat) (f : Nat → Int) (w : World) (e : Ending) (w' : World) : Prop :=
  ∃ a cap, e = .returned (.tuple #[.agg #[.int .i64 p, .int .i64 q, .slice a N cap], .int .i64 0]) ∧ Ints w' w'.heap.size a N f ∧ Below w.heap.size w w'

set_option maxHeartbeats 1000000 in
theorem All_err (x y W H S : Int) (A : Option Addr) (n c : Nat) (z : Nat → Int) (w : World) (hn : n ≤ 4200) (hA : Ints w w.heap.size A n z) (h : Ter.chk x y W H S n z ≠ 0) :
    Calls Try.prog 20 #[hgt x y W H S A n c] w fun e w' => e = .returned (.tuple #[.agg #[.int .i64 0, .int .i64 0, .slice none 0 0], .int .i64 (Ter.chk x y W H S n z)]) ∧ Below w.heap.size w w' := by
  have hb : (Ter.chk x y W H S n z != 0) = true := by simpa using h
  unfold hgt
  go_enter Try.func20, Try.ntmps20
  go_wp2_with fail
  refine (tcheck_any _ _ _ _ _ _ _ _ z _ hn (hA.later (below_step (below_box _ _) (below_box _ _)))).mono ?_
  rintro e w1 ⟨rfl, hb1⟩
  have hfin := Lib.hid (below_step (below_step (below_box w _) (below_box _ _)) hb1)
  have HB := Lib.hid ((hb1.block (w.heap.size + 1) (by simp)).trans (plate_new _ _ _ _))
  obtain ⟨hcl, hfz⟩ := bcell hb1
  clear hb1
  go_wp2
  have hblk := plate_store (u0 := .int .i64 0) (u1 := .int .i64 0) (u2 := .slice none 0 0) HB.out
  obtain ⟨⟨c0, c1, c2⟩, -⟩ := block_cells hblk
  exact bodyPost_ret (v := .tuple #[.agg #[.int .i64 0, .int .i64 0, .slice none 0 0], .int .i64 (Ter.chk x y W H S n z)]) (by simp [results, Try.results20, go_sem, c0, c1, c2]) rfl ⟨rfl, below_plate hfin.out (by omega) _ _ _⟩

set_option maxHeartbeats 1000000 in
theorem All_ok (x y S : Int) (b off n c m q : Nat) (z : Nat → Int) (w : World) (hn : n ≤ 4200) (hb : b < w.heap.size) (hA : ∀ j, j < n → w.cell? ⟨b, off + j, none⟩ = some (.int .i64 (z j))) (h : Ter.chk x y m q S n z = 0) :
    Calls Try.prog 20 #[hgt x y m q S (some ⟨b, off, none⟩) n c] w (PlateOut (m - 1) (q - 1) ((q - 1) * (m - 1)) (Ter.cellAt z m S) w) := by
  have HZ := Lib.hid (Ter.chk_zero h).2.2
  have HN : Hid (n = m * q) := by have := (Ter.chk_zero h).2.1; exact_mod_cast this
  obtain ⟨-, -, ⟨g5, g6⟩, ⟨g7, g8⟩, ⟨g9, g10⟩, -, -⟩ := (Ter.chk_zero h).1
  have HC := Lib.hid h
  have HI : Ints w w.heap.size (some ⟨b, off, none⟩) n z := fun _ => ⟨b, off, rfl, hb, hA⟩
  have HX := Lib.hid hA
  obtain ⟨i0, hi, hz0, hz1, hz2⟩ := info_parts Try.infoInt
  clear h hA
  unfold hgt
  go_enter Try.func20, Try.ntmps20
  go_wp2_with fail
  refine (tcheck_any _ _ _ _ _ _ _ _ z _ hn (HI.later (below_step (below_box _ _) (below_box _ _)))).mono ?_
  rintro e w1 ⟨rfl, hb1⟩
  rw [HC.out]
  have hfin := Lib.hid (below_step (below_step (below_box w _) (below_box _ _)) hb1)
  have HB := Lib.hid ((hb1.block (w.heap.size + 1) (by simp)).trans (plate_new _ _ _ _))
  have hbw : Below (w.heap.size + 1) (w.alloc (.cells #[.int .i64 x, .int .i64 y, .int .i64 m, .int .i64 q, .int .i64 S, .slice (some ⟨b, off, none⟩) n c] 26)) w1 :=
    ((Below.refl _ _).alloc (by simp) _).trans (hb1.mono (by simp))
  have BW := Lib.hid hbw
  obtain ⟨hcl, hfz⟩ := bcell hb1
  clear hb1 hbw
  go_wp2_with fail
  have hst : AllRel (w.heap.size + 1) (w.alloc (.cells #[.int .i64 x, .int .i64 y, .int .i64 m, .int .i64 q, .int .i64 S, .slice (some ⟨b, off, none⟩) n c] 26)) (m - 1) (q - 1) (Ter.cellAt z m S) 0
      (((w1.setCell ⟨w.heap.size + 1, 0, none⟩ (.int .i64 (m - 1))).setCell ⟨w.heap.size + 1, 1, none⟩ (.int .i64 (q - 1))).setCell ⟨w.heap.size + 1, 2, none⟩ (.slice none 0 0)) :=
    ⟨none, 0, [], rfl, fun j hj => absurd hj (by omega), below_plate BW.out (Nat.le_refl _) _ _ _, plate_store HB.out, World.ownsRow_nil _ _ _ _⟩
  have HST := Lib.hid hst
  clear hst hcl hfz
  go_loopw [25] (fun i wr => ∃ r : Nat, r + 1 ≤ q ∧ i = .int .i64 r ∧ AllRel (w.heap.size + 1) (w.alloc (.cells #[.int .i64 x, .int .i64 y, .int .i64 m, .int .i64 q, .int .i64 S, .slice (some ⟨b, off, none⟩) n c] 26)) (m - 1) (q - 1) (Ter.cellAt z m S) (r * (m - 1)) wr)
    (fun i _ => q - (intOf i).toNat)
  case atStart => exact ⟨0, by omega, rfl, by rw [Nat.zero_mul]; exact HST.out⟩
  case round =>
    obtain ⟨r, hr, rfl, hrel⟩ := hrel
    by_cases hlt : r + 1 < q
    · have HR := Lib.hid hrel
      have d0 : decide ((r : Int) < q - 1) = true := by simp; omega
      obtain ⟨a, cap, l, hl, hj, PL⟩ := hrel
      obtain ⟨pc0, pc1, pc2⟩ := PL.cells
      clear PL hj hl
      go_wp2_with fail
      go_loopw [30] (fun i wr => ∃ k : Nat, k + 1 ≤ m ∧ i = .int .i64 k ∧ AllRel (w.heap.size + 1) (w.alloc (.cells #[.int .i64 x, .int .i64 y, .int .i64 m, .int .i64 q, .int .i64 S, .slice (some ⟨b, off, none⟩) n c] 26)) (m - 1) (q - 1) (Ter.cellAt z m S) (r * (m - 1) + k) wr)
        (fun i _ => m - (intOf i).toNat)
      case atStart => exact ⟨0, by omega, rfl, HR.out⟩
      case round =>
        clear pc0 pc1 pc2 HR l a cap
        rename_i wq _
        obtain ⟨k, hk, rfl, hrel⟩ := hrel
        by_cases hk1 : k + 1 < m
        · obtain ⟨a, cap, l, hl, hj, PL⟩ := hrel
          have HL := Lib.hid hl
          have HJ := Lib.hid hj
          have HP := Lib.hid PL
          have hlen : l.length ≤ 4096 := by
            have h1 : r * (m - 1) ≤ 63 * 63 := Nat.mul_le_mul (by omega) (by omega)
            omega
          have hps := PL.size
          obtain ⟨hcl, hfz⟩ := PL.old
          clear hl hj PL
          have hin := Ter.corner HN.out (k := k) (r := r) (by omega) (by omega)
          have hrm := Ter.mul_bound (a := r) (b := m) (A := 64) (B := 64) (by omega) (by omega) (by omega) (by omega)
          obtain ⟨⟨dx1, dx2⟩, dy1, dy2⟩ := Ter.dx_range HZ.out hin
          have d1 : decide ((k : Int) < m - 1) = true := by simp; omega
          go_wp2_with fail
          refine (slope_any x y q S b off n c m r k (r * m + k) z wr (by omega) (by omega) hn (by push_cast; rfl) hin hrm.2 hrm.1 (by omega) (fun j hj => ((HP.out.1.cell (p := ⟨b, off + j, none⟩) (by show b < _; omega)).trans (World.cell?_alloc_past _ _ _ hb)).trans (HX.out j hj)) HZ.out).mono ?_
          rintro e w2 ⟨rfl, hb2⟩
          have P2 := Lib.hid (HP.out.later hb2)
          clear hcl hfz hb2 hps HP
          have hps := P2.out.size
          obtain ⟨hcl, hfz⟩ := P2.out.old
          go_wp2_with fail
          refine (shade_any _ _ _ _ dx1 dx2 dy1 dy2 g9 g10).mono ?_
          rintro e w3 ⟨rfl, rfl⟩
          have HV := Lib.hid (show Ter.cellAt z m S (r * (m - 1) + k) = Ter.shF (Ter.dxF z m (r * m + k)) (Ter.dyF z m (r * m + k)) S from Ter.cellAt_eq z S (by omega))
          obtain ⟨pc0, pc1, pc2⟩ := P2.out.cells
          have pf2 := P2.out.free 2
          generalize Ter.shF (Ter.dxF z m (r * m + k)) (Ter.dyF z m (r * m + k)) S = sv at *
          go_wp2_with (at_builtin; refine wpList_append_own _ rfl _ _ 24 rfl (w.heap.size + 1 + 1) 3 i0 (.int .i64 0) 1 8 Try.underlying24 hi hz0 hz1 hz2 rfl (by decide) _ _ _ rfl (P2.out.2.2.alloc _) ⟨w2.heap.size, 0, none⟩ 1 1 [.int .i64 sv] rfl rfl ?c1 ?c2 ?c3 ?c4 ?c5 ?_)
          case c1 =>
            intro j u hj
            match j, hj with
            | 0, hj => simp at hj; subst hj; simp [Addr.add]
          case c2 => intro u hu; simp at hu; subst hu; rfl
          case c3 => unfold maxLen; omega
          case c4 => omega
          case c5 => simp; omega
          intro v' w4 hown hgrow _
          obtain ⟨a', cap', rfl, PL3, hfz4, hlt4, hc4⟩ := P2.out.append hown hgrow
          have HR2 := Lib.hid (AllRel.snoc HL.out HJ.out HV.out PL3)
          clear hown hgrow PL3 P2 pc0 pc1 pc2 pf2 hcl hfz HL HJ HV hps
          go_wp2
          go_roundw
          case rel => exact ⟨k + 1, by omega, by go_num, HR2.out⟩
          case measure => simp [intOf]; omega
        · have d1 : decide ((k : Int) < m - 1) = false := by simp; omega
          have HM := Lib.hid (show k = m - 1 by omega)
          have HR2 := Lib.hid hrel
          clear hrel
          go_wp2
          go_roundw
          case rel => exact ⟨r + 1, by omega, by go_num, by have := HR2.out; rw [HM.out] at this; rw [Nat.add_mul, Nat.one_mul]; exact this⟩
          case measure => simp [intOf]; omega
    · have d1 : decide ((r : Int) < q - 1) = false := by simp; omega
      have HQ := Lib.hid (show r = q - 1 by omega)
      obtain ⟨a, cap, l, hl, hj, PL⟩ := hrel
      have HL := Lib.hid hl
      have PR := PL.restore
      have HB2 := Lib.hid ((below_box w _).trans (PR.1.mono (by omega)))
      have HIN := Lib.hid (PR.ints (Ter.cellAt z m S) (fun j hjl => hj j (by omega)))
      have HC2 := Lib.hid PR.cells
      obtain ⟨pc0, pc1, pc2⟩ := PL.cells
      have pf0 := PL.free 0
      have pf1 := PL.free 1
      have pf2 := PL.free 2
      clear hl hj PL PR
      go_wp2
      obtain ⟨c0, c1, c2⟩ := HC2.out
      refine bodyPost_ret (v := .tuple #[.agg #[.int .i64 (m - 1), .int .i64 (q - 1), .slice a l.length cap], .int .i64 0]) (by simp [results, Try.results20, go_sem, c0, c1, c2]) rfl ?_
      have hlen : l.length = (q - 1) * (m - 1) := by rw [HL.out, HQ.out]
      have hin := HIN.out
      have hb2 := HB2.out
      rw [hlen] at hin hb2 ⊢
      exact ⟨a, cap, rfl, hin, hb2⟩
theorem All_any (x y W H S : Int) (A : Option Addr) (n c : Nat) (z : Nat → Int) (w : World) (hn : n ≤ 4200) (hA : Ints w w.heap.size A n z) (h : Ter.chk x y W H S n z = 0) :
    Calls Try.prog 20 #[hgt x y W H S A n c] w (PlateOut (W - 1) (H - 1) ((H.toNat - 1) * (W.toNat - 1)) (Ter.cellAt z W.toNat S) w) := by
  obtain ⟨⟨-, -, ⟨g5, g6⟩, ⟨g7, g8⟩, -, -, -⟩, hw, -⟩ := Ter.chk_zero h
  have h4 : 4 ≤ W * H := Int.mul_le_mul g5 g7 (by omega) (by omega)
  obtain ⟨b, off, rfl, hb, hc⟩ := hA (by omega)
  obtain ⟨m, rfl⟩ := Int.eq_ofNat_of_zero_le (show 0 ≤ W by omega)
  obtain ⟨q, rfl⟩ := Int.eq_ofNat_of_zero_le (show 0 ≤ H by omega)
  exact All_ok x y S b off n c m q z w hn hb hc h
end Go.Proofs.Ythgdmcjahldihaa
