/- The contract of the reference's Peaks. -/
import Derived.Test.YthgdmcjahldihaaTerK
import Derived.Test.YthgdmcjahldihaaTerD
import Derived.Test.YthgdmcjahldihaaTerP
namespace Go.Proofs.Ythgdmcjahldihaa
open Go.RowKit
set_option linter.unusedVariables false

set_option maxHeartbeats 1000000 in
theorem rPeaks_err (x y W H S : Int) (A : Option Addr) (n c : Nat) (z : Nat → Int) (w : World) (hn : n ≤ 4200) (hA : Ints w w.heap.size A n z) (h : Ter.chk x y W H S n z ≠ 0) :
    Calls Try.prog 34 #[hgt x y W H S A n c] w (PtsOut [] (Ter.chk x y W H S n z) w) := by
  have hb : (Ter.chk x y W H S n z != 0) = true := by simpa using h
  unfold hgt
  go_enter Try.func34, Try.ntmps34
  go_wp2_with fail
  refine (rcheck_any _ _ _ _ _ _ _ _ z _ hn (hA.later (below_box _ _))).mono ?_
  rintro e w1 ⟨rfl, hb1⟩
  have hfin := Lib.hid (below_step (below_box w _) hb1)
  clear hb1
  go_wp2
  go_ret2
  exact ⟨none, 0, rfl, fun h0 => absurd h0 (by simp), hfin.out⟩

set_option maxHeartbeats 1000000 in
theorem rPeaks_ok (x y S : Int) (b off n c m q : Nat) (z : Nat → Int) (w : World) (hn : n ≤ 4200) (hb : b < w.heap.size) (hA : ∀ j, j < n → w.cell? ⟨b, off + j, none⟩ = some (.int .i64 (z j))) (h : Ter.chk x y m q S n z = 0) :
    Calls Try.prog 34 #[hgt x y m q S (some ⟨b, off, none⟩) n c] w (PtsOut (Ter.pkL z m q x y S (q * m)) 0 w) := by
  have HN : Hid (n = m * q) := by have := (Ter.chk_zero h).2.1; exact Lib.hid (by exact_mod_cast this)
  obtain ⟨⟨g1, g2⟩, ⟨g3, g4⟩, ⟨g5, g6⟩, ⟨g7, g8⟩, ⟨g9, g10⟩, -, -⟩ := (Ter.chk_zero h).1
  have HC := Lib.hid h
  have HI : Ints w w.heap.size (some ⟨b, off, none⟩) n z := fun _ => ⟨b, off, rfl, hb, hA⟩
  have HX := Lib.hid hA
  obtain ⟨i0, hi, hz0, hz1, hz2⟩ := info_parts Try.infoPt
  clear h hA
  unfold hgt
  go_enter Try.func34, Try.ntmps34
  go_wp2_with fail
  refine (rcheck_any _ _ _ _ _ _ _ _ z _ hn (HI.later (below_box _ _))).mono ?_
  rintro e w1 ⟨rfl, hb1⟩
  rw [HC.out]
  have F1 := Lib.hid (below_step (below_box w _) hb1)
  have B1 := Lib.hid hb1
  have hs1 : w.heap.size < w1.heap.size := by have := hb1.size; simp at this; omega
  obtain ⟨hcl, hfz⟩ := bcell hb1
  clear hb1
  go_wp2_with fail
  clear hcl hfz
  go_loopw [6, 5] (fun i v wr => ∃ r : Nat, r ≤ q ∧ i = .int .i64 r ∧ PkRel w1 (Ter.pkL z m q x y S (r * m)) v wr) (fun i _ _ => q - (intOf i).toNat)
  case atStart => exact ⟨0, by omega, rfl, none, 0, by rw [Nat.zero_mul]; rfl, by rw [Nat.zero_mul]; exact World.ownsRow_nil _ _ _ _, Below.refl _ _⟩
  case round =>
    obtain ⟨r, hr, rfl, hrel⟩ := hrel
    by_cases hlt : r < q
    · have HR := Lib.hid hrel
      obtain ⟨a0, cap0, rfl, hown, hbl⟩ := hrel
      have bb : ∀ o, wr.cell? ⟨w.heap.size, o, none⟩ = (w.alloc (.cells #[.int .i64 x, .int .i64 y, .int .i64 m, .int .i64 q, .int .i64 S, .slice (some ⟨b, off, none⟩) n c] 26)).cell? ⟨w.heap.size, o, none⟩ := fun o => by
        rw [(bcell hbl).1 _ _ hs1, (bcell B1.out).1 _ _ (by simp)]
      clear hown hbl
      go_wp2_with fail
      clear bb
      go_loopw [7, 5] (fun i v wr => ∃ k : Nat, k ≤ m ∧ i = .int .i64 k ∧ PkRel w1 (Ter.pkL z m q x y S (r * m + k)) v wr) (fun i _ _ => m - (intOf i).toNat)
      case atStart => exact ⟨0, by omega, rfl, HR.out⟩
      case round =>
        clear HR
        rename_i wq _ _
        obtain ⟨k, hk, rfl, hrel⟩ := hrel
        by_cases hk1 : k < m
        · have HST := Lib.hid (show Ter.pkL z m q x y S (r * m + (k + 1)) = Ter.pkL z m q x y S (r * m + k) ++ Ter.pkO z m q x y S (r * m + k) from rfl)
          have HPO := Lib.hid (Ter.pkO_at z (q := q) x y S (r := r) hk1)
          have hlen : (Ter.pkL z m q x y S (r * m + k)).length ≤ 4200 := by
            have h1 := Ter.pkL_len z m q x y S (r * m + k)
            have h2 : r * m ≤ 63 * 64 := Nat.mul_le_mul (by omega) (by omega)
            omega
          generalize Ter.pkL z m q x y S (r * m + k) = l at *
          obtain ⟨a, cap, rfl, hown, hbl⟩ := hrel
          have OW := Lib.hid hown
          have BL := Lib.hid hbl
          have bb : ∀ o, wr.cell? ⟨w.heap.size, o, none⟩ = (w.alloc (.cells #[.int .i64 x, .int .i64 y, .int .i64 m, .int .i64 q, .int .i64 S, .slice (some ⟨b, off, none⟩) n c] 26)).cell? ⟨w.heap.size, o, none⟩ := fun o => by
            rw [(bcell hbl).1 _ _ hs1, (bcell B1.out).1 _ _ (by simp)]
          have hsr : w1.heap.size ≤ wr.heap.size := hbl.size
          have FX := Lib.hid (below_step F1.out hbl)
          clear hown hbl
          obtain ⟨p1, p2⟩ := Ter.mul_bound (a := k) (b := S) (A := 64) (B := 1048576) (by omega) (by omega) (by omega) (by omega)
          obtain ⟨p3, p4⟩ := Ter.mul_bound (a := r) (b := S) (A := 64) (B := 1048576) (by omega) (by omega) (by omega) (by omega)
          go_wp2_with fail
          refine (rpeak_any x y S b off n c m q k r z _ hn (by omega) (fun j hj => cell_in FX.out (HX.out j hj) hb) (by omega) (by omega) (by omega) HN.out hk1 hlt).mono ?_
          rintro e w2 ⟨rfl, hb2⟩
          have BL2 := Lib.hid (below_step BL.out hb2)
          have OW2 := Lib.hid (own_later OW.out hb2)
          have hs2 : w1.heap.size ≤ w2.heap.size := BL2.out.size
          clear bb BL OW hsr FX hb2
          cases hpk : Ter.pkB z m q k r
          · rw [hpk] at HPO
            have HR2 : Hid (PkRel w1 (Ter.pkL z m q x y S (r * m + (k + 1))) (.slice a l.length cap) w2) := Lib.hid (by rw [HST.out, HPO.out, if_neg (by decide), List.append_nil]; exact ⟨a, cap, rfl, OW2.out, BL2.out⟩)
            clear HPO OW2 BL2
            go_wp2
            go_roundw
            case rel => exact ⟨k + 1, by omega, by go_num, HR2.out⟩
            case measure => simp [intOf] <;> omega
          · rw [hpk] at HPO
            have bb : ∀ o, w2.cell? ⟨w.heap.size, o, none⟩ = (w.alloc (.cells #[.int .i64 x, .int .i64 y, .int .i64 m, .int .i64 q, .int .i64 S, .slice (some ⟨b, off, none⟩) n c] 26)).cell? ⟨w.heap.size, o, none⟩ := fun o => by
              rw [(bcell BL2.out).1 _ _ hs1, (bcell B1.out).1 _ _ (by simp)]
            go_wp2_with fail
            refine (rat_any x y m q S (some ⟨b, off, none⟩) n c k r _ (by omega) (by omega) (by omega) (by omega) g1 g2 g3 g4).mono ?_
            rintro e w3 ⟨rfl, hb3⟩
            have BL3 := Lib.hid (below_step BL2.out hb3)
            have OW3 := Lib.hid (own_later OW2.out hb3)
            have hs3 : w1.heap.size ≤ w3.heap.size := BL3.out.size
            clear bb hb3 BL2 OW2
            go_wp2_with (at_builtin; refine wpList_append_own _ rfl _ _ 48 rfl w1.heap.size 23 i0 (.agg #[.int .i64 0, .int .i64 0]) 2 16 Try.underlying48 hi hz0 hz1 hz2 rfl (by decide) _ _ _ rfl (OW3.out.alloc _) ⟨w3.heap.size, 0, none⟩ 1 1 [.int .i64 (x + k * S), .int .i64 (y + r * S)] rfl rfl ?c1 ?c2 ?c3 ?c4 ?c5 ?_)
            case c1 =>
              intro j u hj
              match j, hj with
              | 0, hj => simp at hj; subst hj; simp [Addr.add]
              | 1, hj => simp at hj; subst hj; simp [Addr.add]
            case c2 => intro u hu; simp at hu; rcases hu with rfl | rfl <;> rfl
            case c3 => unfold maxLen; omega
            case c4 => omega
            case c5 => simp; omega
            intro v' w4 hown hgrow _
            have HR2 : Hid (PkRel w1 (Ter.pkL z m q x y S (r * m + (k + 1))) v' w4) := Lib.hid (by
              rw [HST.out, HPO.out, if_pos trivial]
              rw [← pcs_snoc l (x + k * S, y + r * S)] at hown
              rcases hown.2 with ⟨-, h0⟩ | ⟨g, cap', cur, hv, -⟩
              · omega
              · subst hv
                refine ⟨some ⟨g, 0, none⟩, cap', by simp, by simpa using hown, ?_⟩
                refine Below.grown (BL3.out.alloc hs3 _) hgrow (by simp; omega) fun j hj => ?_
                exact (OW3.out.lt j hj).1)
            clear HPO OW3 BL3 hown hgrow
            go_wp2
            go_roundw
            case rel => exact ⟨k + 1, by omega, by go_num, HR2.out⟩
            case measure => simp [intOf] <;> omega
        · have HM := Lib.hid (show k = m by omega)
          have HR2 := Lib.hid hrel
          obtain ⟨a, cap, rfl, hown, hbl⟩ := hrel
          have bb : ∀ o, wr.cell? ⟨w.heap.size, o, none⟩ = (w.alloc (.cells #[.int .i64 x, .int .i64 y, .int .i64 m, .int .i64 q, .int .i64 S, .slice (some ⟨b, off, none⟩) n c] 26)).cell? ⟨w.heap.size, o, none⟩ := fun o => by
            rw [(bcell hbl).1 _ _ hs1, (bcell B1.out).1 _ _ (by simp)]
          clear hown hbl
          have hkm : (m : Int) ≤ (k : Int) := by omega
          have hkn : decide (k < m) = false := by simp; omega
          go_wp2
          go_roundw
          case rel => exact ⟨r + 1, by omega, by go_num, by rw [show (r + 1) * m = r * m + k by rw [Nat.add_mul, Nat.one_mul, HM.out]]; exact HR2.out⟩
          case measure => simp [intOf] <;> omega
    · have HQ := Lib.hid (show r = q by omega)
      obtain ⟨a, cap, rfl, hown, hbl⟩ := hrel
      have HP := Lib.hid (own_pts hown)
      have F2 := Lib.hid (below_step F1.out hbl)
      have bb : ∀ o, wr.cell? ⟨w.heap.size, o, none⟩ = (w.alloc (.cells #[.int .i64 x, .int .i64 y, .int .i64 m, .int .i64 q, .int .i64 S, .slice (some ⟨b, off, none⟩) n c] 26)).cell? ⟨w.heap.size, o, none⟩ := fun o => by
        rw [(bcell hbl).1 _ _ hs1, (bcell B1.out).1 _ _ (by simp)]
      clear hown hbl
      have hrn : decide (r < q) = false := by simp; omega
      go_wp2
      go_ret2
      have hp := HP.out
      rw [HQ.out] at hp ⊢
      exact ⟨a, cap, rfl, hp, F2.out⟩
theorem rPeaks_any (x y W H S : Int) (A : Option Addr) (n c : Nat) (z : Nat → Int) (w : World) (hn : n ≤ 4200) (hA : Ints w w.heap.size A n z) :
    Calls Try.prog 34 #[hgt x y W H S A n c] w (PtsOut (pkAll x y W H S n z) (Ter.chk x y W H S n z) w) := by
  unfold pkAll
  by_cases h : Ter.chk x y W H S n z = 0
  · rw [if_pos h, h]
    obtain ⟨⟨-, -, ⟨g5, g6⟩, ⟨g7, g8⟩, -, -, -⟩, hw, -⟩ := Ter.chk_zero h
    have h4 : 4 ≤ W * H := Int.mul_le_mul g5 g7 (by omega) (by omega)
    obtain ⟨b, off, rfl, hb, hc⟩ := hA (by omega)
    obtain ⟨m, rfl⟩ := Int.eq_ofNat_of_zero_le (show 0 ≤ W by omega)
    obtain ⟨q, rfl⟩ := Int.eq_ofNat_of_zero_le (show 0 ≤ H by omega)
    exact rPeaks_ok x y S b off n c m q z w hn hb hc h
  · rw [if_neg h]; exact rPeaks_err x y W H S A n c z w hn hA h
theorem pkAll_len2 {x y W H S : Int} {n : Nat} {z : Nat → Int} (hn : n ≤ 4200) : (pkAll x y W H S n z).length ≤ 4200 := by
  unfold pkAll
  split
  · rename_i h
    obtain ⟨⟨-, -, ⟨g5, g6⟩, ⟨g7, g8⟩, -, -, -⟩, hw, -⟩ := Ter.chk_zero h
    have h1 := Ter.pkL_len z W.toNat H.toNat x y S (H.toNat * W.toNat)
    have h2 : H.toNat * W.toNat ≤ 64 * 64 := Nat.mul_le_mul (by omega) (by omega)
    omega
  · simp
end Go.Proofs.Ythgdmcjahldihaa
