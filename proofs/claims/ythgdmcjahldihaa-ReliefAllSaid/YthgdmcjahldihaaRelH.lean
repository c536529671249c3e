/- The contracts of the reference's All (mapsheetsref45) and of its Same, for plates that are equal. -/
import Derived.Test.YthgdmcjahldihaaRelG
namespace Go.Proofs.Ythgdmcjahldihaa
open Go.RowKit
set_option linter.unusedVariables false

set_option maxHeartbeats 1000000 in
theorem rAll_err (x y W H S : Int) (A : Option Addr) (n c : Nat) (z : Nat → Int) (w : World) (hn : n ≤ 4200) (hA : Ints w w.heap.size A n z) (h : Ter.chk x y W H S n z ≠ 0) :
    Calls Try.prog 21 #[hgt x y W H S A n c] w fun e w' => e = .returned (.tuple #[.agg #[.int .i64 0, .int .i64 0, .slice none 0 0], .int .i64 (Ter.chk x y W H S n z)]) ∧ Below w.heap.size w w' := by
  have hb : (Ter.chk x y W H S n z != 0) = true := by simpa using h
  unfold hgt
  go_enter Try.func21, Try.ntmps21
  go_wp2_with fail
  refine (rcheck_any _ _ _ _ _ _ _ _ z _ hn (hA.later (below_step (below_box _ _) (below_box _ _)))).mono ?_
  rintro e w1 ⟨rfl, hb1⟩
  have hfin := Lib.hid (below_step (below_step (below_box w _) (below_box _ _)) hb1)
  have HB := Lib.hid ((hb1.block (w.heap.size + 1) (by simp)).trans (plate_new _ _ _ _))
  obtain ⟨hcl, hfz⟩ := bcell hb1
  clear hb1
  go_wp2
  have hblk := plate_store (u0 := .int .i64 0) (u1 := .int .i64 0) (u2 := .slice none 0 0) HB.out
  obtain ⟨⟨c0, c1, c2⟩, -⟩ := block_cells hblk
  exact bodyPost_ret (v := .tuple #[.agg #[.int .i64 0, .int .i64 0, .slice none 0 0], .int .i64 (Ter.chk x y W H S n z)]) (by simp [results, Try.results21, go_sem, c0, c1, c2]) rfl ⟨rfl, below_plate hfin.out (by omega) _ _ _⟩

theorem own_ints {w : World} {base : Nat} {a : Option Addr} {cap : Nat} {l : List Int} (h : w.ownsRow base 3 1 (.slice a l.length cap) l.length (l.map (Value.int .i64))) (f : Nat → Int) (hf : ∀ j, j < l.length → l[j]? = some (f j)) : Ints w w.heap.size a l.length f := fun hn => by
  rcases h.2 with ⟨-, h0⟩ | ⟨g, cap', cur, hv, hb, hg, hcap, hm, hcs, htk⟩
  · omega
  · have ha : a = some ⟨g, 0, none⟩ := by simp at hv; exact hv.1
    refine ⟨g, 0, ha, (Array.getElem?_eq_some_iff.1 hg).1, fun j hj => ?_⟩
    have hc := h.cells (g := g) (by rw [ha]; rfl) j (.int .i64 (f j)) (by simp [hf j hj])
    have e : (⟨g, 0, none⟩ : Addr).add j = ⟨g, 0 + j, none⟩ := by unfold Addr.add; split <;> simp_all
    rwa [e] at hc
/-- the list can be read behind three stores into another block -/
theorem PlateAt.intsOut {P : Nat} {W0 wr : World} {p q : Int} {a : Option Addr} {cap : Nat} {l : List Int} (h : PlateAt P W0 wr p q a cap l) (f : Nat → Int) (hf : ∀ j, j < l.length → l[j]? = some (f j)) {B : Nat} (hB : B < P + 1) (u0 u1 u2 : Value) :
    Ints (((wr.setCell ⟨B, 0, none⟩ u0).setCell ⟨B, 1, none⟩ u1).setCell ⟨B, 2, none⟩ u2) (((wr.setCell ⟨B, 0, none⟩ u0).setCell ⟨B, 1, none⟩ u1).setCell ⟨B, 2, none⟩ u2).heap.size a l.length f :=
  own_ints (ownsRow_setCell_below (ownsRow_setCell_below (ownsRow_setCell_below h.2.2 (a := ⟨B, 0, none⟩) hB u0) (a := ⟨B, 1, none⟩) hB u1) (a := ⟨B, 2, none⟩) hB u2) f hf
/-- a cell of a valid grid has its shade -/
theorem shV_cell {x y S : Int} {n m q k r : Nat} {z : Nat → Int} (h : Ter.chk x y m q S n z = 0) (hk : k + 1 < m) (hr : r + 1 < q) :
    Ter.slE x y m q S n z k r = 0 ∧ Ter.shV x y m q S n z k r = Ter.cellF z m S k r := by
  have hin : Ter.In2 m q k r := ⟨⟨by omega, by omega⟩, by omega, by omega⟩
  obtain ⟨e1, e2, e3⟩ := Ter.sl_in h hin
  refine ⟨e1, ?_⟩
  have e : ((r : Int) * m + k).toNat = r * m + k := by
    have : (r : Int) * m + k = ((r * m + k : Nat) : Int) := by push_cast; rfl
    rw [this]; rfl
  unfold Ter.shV Ter.cellF
  rw [if_pos e1, e2, e3, e]
  rfl

set_option maxHeartbeats 1000000 in
theorem rAll_ok (x y S : Int) (b off n c m q : Nat) (z : Nat → Int) (w : World) (hn : n ≤ 4200) (hb : b < w.heap.size) (hA : ∀ j, j < n → w.cell? ⟨b, off + j, none⟩ = some (.int .i64 (z j))) (h : Ter.chk x y m q S n z = 0) :
    Calls Try.prog 21 #[hgt x y m q S (some ⟨b, off, none⟩) n c] w (PlateOut (m - 1) (q - 1) ((q - 1) * (m - 1)) (Ter.cellAt z m S) w) := by
  obtain ⟨-, -, ⟨g5, g6⟩, ⟨g7, g8⟩, ⟨g9, g10⟩, -, -⟩ := (Ter.chk_zero h).1
  have HC := Lib.hid h
  have HI : Ints w w.heap.size (some ⟨b, off, none⟩) n z := fun _ => ⟨b, off, rfl, hb, hA⟩
  obtain ⟨i0, hi, hz0, hz1, hz2⟩ := info_parts Try.infoInt
  clear h hA
  unfold hgt
  go_enter Try.func21, Try.ntmps21
  go_wp2_with fail
  refine (rcheck_any _ _ _ _ _ _ _ _ z _ hn (HI.later (below_step (below_box _ _) (below_box _ _)))).mono ?_
  rintro e w1 ⟨rfl, hb1⟩
  rw [HC.out]
  have hfin := Lib.hid (below_step (below_step (below_box w _) (below_box _ _)) hb1)
  have HB := Lib.hid ((hb1.block (w.heap.size + 1) (by simp)).trans (plate_new _ _ _ _))
  have hs1 : w.heap.size + 2 ≤ w1.heap.size := by have := hb1.size; simp at this; omega
  have B1 := Lib.hid hb1
  obtain ⟨hcl, hfz⟩ := bcell hb1
  clear hb1
  go_wp2_with fail
  go_loopw [6] (fun i wr => ∃ r : Nat, r + 1 ≤ q ∧ i = .int .i64 r ∧ AllRel w1.heap.size w1 (m - 1) (q - 1) (Ter.cellAt z m S) (r * (m - 1)) wr)
    (fun i _ => q - (intOf i).toNat)
  case atStart => exact ⟨0, by omega, rfl, by rw [Nat.zero_mul]; exact ⟨none, 0, [], rfl, fun j hj => absurd hj (by omega), below_box _ _, heap_alloc_new _ _, World.ownsRow_nil _ _ _ _⟩⟩
  case round =>
    clear hcl hfz
    obtain ⟨r, hr, rfl, hrel⟩ := hrel
    by_cases hlt : r + 1 < q
    · have HR := Lib.hid hrel
      have d0 : decide ((r : Int) < q - 1) = true := by simp; omega
      obtain ⟨a, cap, l, hl, hj, PL⟩ := hrel
      obtain ⟨pc0, pc1, pc2⟩ := PL.cells
      clear PL hj hl
      go_wp2_with fail
      go_loopw [7] (fun i wr => ∃ k : Nat, k + 1 ≤ m ∧ i = .int .i64 k ∧ AllRel w1.heap.size w1 (m - 1) (q - 1) (Ter.cellAt z m S) (r * (m - 1) + k) wr)
        (fun i _ => m - (intOf i).toNat)
      case atStart => exact ⟨0, by omega, rfl, HR.out⟩
      case round =>
        clear pc0 pc1 pc2 HR l a cap
        rename_i wq _
        obtain ⟨k, hk, rfl, hrel⟩ := hrel
        by_cases hk1 : k + 1 < m
        · obtain ⟨a, cap, l, hl, hj, PL⟩ := hrel
          have HL := Lib.hid hl
          have HJ := Lib.hid hj
          have HP := Lib.hid PL
          have hlen : l.length ≤ 4096 := by
            have h1 : r * (m - 1) ≤ 63 * 63 := Nat.mul_le_mul (by omega) (by omega)
            omega
          have hps := PL.size
          have bb : ∀ o, wr.cell? ⟨w.heap.size, o, none⟩ = (w.alloc (.cells #[.int .i64 x, .int .i64 y, .int .i64 m, .int .i64 q, .int .i64 S, .slice (some ⟨b, off, none⟩) n c] 26)).cell? ⟨w.heap.size, o, none⟩ := fun o => by
            rw [PL.1.cell (p := ⟨w.heap.size, o, none⟩) (by show w.heap.size < _; omega), (bcell B1.out).1 _ _ (by simp; omega), World.cell?_alloc_past _ _ _ (by simp)]
          obtain ⟨pc0, pc1, pc2⟩ := PL.cells
          have HI2 := Lib.hid (HI.later (hfin.out.trans (PL.1.mono (by omega))))
          clear hl hj PL
          obtain ⟨V1, V2⟩ := shV_cell HC.out (k := k) (r := r) hk1 hlt
          have HV1 := Lib.hid V1
          have HV2 := Lib.hid V2
          clear V1 V2
          have d1 : decide ((k : Int) < m - 1) = true := by simp; omega
          go_wp2_with fail
          refine (rShade_any x y m q S (some ⟨b, off, none⟩) n c z k r wr hn HI2.out).mono ?_
          rintro e w2 ⟨rfl, hb2⟩
          rw [HV1.out, HV2.out]
          have P2 := Lib.hid (HP.out.later hb2)
          clear bb hb2 hps HP pc0 pc1 pc2 HI2 HV1 HV2
          have hps := P2.out.size
          have HV := Lib.hid (Ter.cellAt_eq z S (m := m) (k := k) (r := r) (by omega))
          obtain ⟨pc0, pc1, pc2⟩ := P2.out.cells
          have pf2 := P2.out.free 2
          generalize Ter.cellF z m S k r = sv at *
          go_wp2_with (at_builtin; refine wpList_append_own _ rfl _ _ 24 rfl (w1.heap.size + 1) 3 i0 (.int .i64 0) 1 8 Try.underlying24 hi hz0 hz1 hz2 rfl (by decide) _ _ _ rfl (P2.out.2.2.alloc _) ⟨w2.heap.size, 0, none⟩ 1 1 [.int .i64 sv] rfl rfl ?c1 ?c2 ?c3 ?c4 ?c5 ?_)
          case c1 =>
            intro j u hj
            match j, hj with
            | 0, hj => simp at hj; subst hj; simp [Addr.add]
          case c2 => intro u hu; simp at hu; subst hu; rfl
          case c3 => unfold maxLen; omega
          case c4 => omega
          case c5 => simp; omega
          intro v' w4 hown hgrow _
          obtain ⟨a', cap', rfl, PL3, hfz4, hlt4, hc4⟩ := P2.out.append hown hgrow
          have HR2 := Lib.hid (AllRel.snoc HL.out HJ.out HV.out PL3)
          clear hown hgrow PL3 P2 pc0 pc1 pc2 pf2 HL HJ HV hps
          go_wp2
          go_roundw
          case rel => exact ⟨k + 1, by omega, by go_num, HR2.out⟩
          case measure => simp [intOf]; omega
        · have d1 : decide ((k : Int) < m - 1) = false := by simp; omega
          have HM := Lib.hid (show k = m - 1 by omega)
          have HR2 := Lib.hid hrel
          obtain ⟨a, cap, l, hl, hj, PL⟩ := hrel
          obtain ⟨pc0, pc1, pc2⟩ := PL.cells
          clear hl hj PL
          go_wp2
          go_roundw
          case rel => exact ⟨r + 1, by omega, by go_num, by have := HR2.out; rw [HM.out] at this; rw [Nat.add_mul, Nat.one_mul]; exact this⟩
          case measure => simp [intOf]; omega
    · have d1 : decide ((r : Int) < q - 1) = false := by simp; omega
      have HQ := Lib.hid (show r = q - 1 by omega)
      obtain ⟨a, cap, l, hl, hj, PL⟩ := hrel
      have HL := Lib.hid hl
      have HB3 := Lib.hid ((PL.1.block (w.heap.size + 1) (by omega)).trans HB.out)
      have HB2 := Lib.hid (below_plate (hfin.out.trans (PL.1.mono (by omega))) (show w.heap.size ≤ w.heap.size + 1 by omega) (.int .i64 (m - 1)) (.int .i64 (q - 1)) (.slice a l.length cap))
      have HIN := Lib.hid (PL.intsOut (Ter.cellAt z m S) (fun j hjl => hj j (by omega)) (B := w.heap.size + 1) (by omega) (.int .i64 (m - 1)) (.int .i64 (q - 1)) (.slice a l.length cap))
      obtain ⟨pc0, pc1, pc2⟩ := PL.cells
      obtain ⟨⟨k0, k1, k2⟩, pf0, pf1, pf2⟩ := block_cells HB3.out
      have hps := PL.size
      clear hl hj PL
      go_wp2
      have hblk := plate_store (u0 := .int .i64 (m - 1)) (u1 := .int .i64 (q - 1)) (u2 := .slice a l.length cap) HB3.out
      obtain ⟨⟨c0, c1, c2⟩, -⟩ := block_cells hblk
      refine bodyPost_ret (v := .tuple #[.agg #[.int .i64 (m - 1), .int .i64 (q - 1), .slice a l.length cap], .int .i64 0]) (by simp [results, Try.results21, go_sem, c0, c1, c2]) rfl ?_
      have hlen : l.length = (q - 1) * (m - 1) := by rw [HL.out, HQ.out]
      have hin := HIN.out
      have hb2 := HB2.out
      rw [hlen] at hin hb2 ⊢
      exact ⟨a, cap, rfl, hin, hb2⟩
theorem rAll_any (x y W H S : Int) (A : Option Addr) (n c : Nat) (z : Nat → Int) (w : World) (hn : n ≤ 4200) (hA : Ints w w.heap.size A n z) (h : Ter.chk x y W H S n z = 0) :
    Calls Try.prog 21 #[hgt x y W H S A n c] w (PlateOut (W - 1) (H - 1) ((H.toNat - 1) * (W.toNat - 1)) (Ter.cellAt z W.toNat S) w) := by
  obtain ⟨⟨-, -, ⟨g5, g6⟩, ⟨g7, g8⟩, -, -, -⟩, hw, -⟩ := Ter.chk_zero h
  have h4 : 4 ≤ W * H := Int.mul_le_mul g5 g7 (by omega) (by omega)
  obtain ⟨b, off, rfl, hb, hc⟩ := hA (by omega)
  obtain ⟨m, rfl⟩ := Int.eq_ofNat_of_zero_le (show 0 ≤ W by omega)
  obtain ⟨q, rfl⟩ := Int.eq_ofNat_of_zero_le (show 0 ≤ H by omega)
  exact rAll_ok x y S b off n c m q z w hn hb hc h
end Go.Proofs.Ythgdmcjahldihaa
