/- ReliefMirrored returns true: the walk. -/
import Derived.Test.YthgdmcjahldihaaRelJ
import Derived.Test.YthgdmcjahldihaaRelPlainC
import Derived.Test.YthgdmcjahldihaaBox
import Derived.Deep.RegionHeld3
import Derived.Deep.DeepCutAuto
import Derived.Deep.OwnRows
import Derived.StillTailTactics
namespace Go.Proofs.Ythgdmcjahldihaa
open Go.RowKit
set_option linter.unusedVariables false
/-- the reflected grid so far: its box and its row -/
def MG (w v : World) (g s q m n : Nat) (S : Int) (f : Nat → Int) : Prop :=
  w.heap.size ≤ g ∧ w.heap.size ≤ s ∧ g ≠ s ∧ v.cell? ⟨g, 0, none⟩ = some (.int .i64 0) ∧ v.cell? ⟨g, 1, none⟩ = some (.int .i64 0) ∧ v.cell? ⟨g, 2, none⟩ = some (.int .i64 q) ∧ v.cell? ⟨g, 3, none⟩ = some (.int .i64 m) ∧ v.cell? ⟨g, 4, none⟩ = some (.int .i64 S) ∧ v.cell? ⟨g, 5, none⟩ = some (.slice (some ⟨s, 0, none⟩) n n) ∧
  (∀ j, j < n → v.cell? ⟨s, j, none⟩ = some (.int .i64 (f j))) ∧ (∀ o, v.frozen? ⟨s, o, none⟩ = false) ∧ s < v.heap.size ∧ Below w.heap.size w v
theorem MG.later {w v u : World} {g s q m n : Nat} {S : Int} {f : Nat → Int} (h : MG w v g s q m n S f) (hb : Below v.heap.size v u) : MG w u g s q m n S f := by
  obtain ⟨a, b, c, h0, h1, h2, h3, h4, h5, hc, hf, hs, hB⟩ := h
  have := hb.size
  exact ⟨a, b, c, cell_on h0 hb, cell_on h1 hb, cell_on h2 hb, cell_on h3 hb, cell_on h4 hb, cell_on h5 hb, fun j hj => cell_on (hc j hj) hb, fun o => (hb.frozen (p := ⟨s, o, none⟩) hs).trans (hf o), by omega, below_on hB hb⟩
theorem MG.set {w v : World} {g s q m n : Nat} {S : Int} {f : Nat → Int} (h : MG w v g s q m n S f) {i : Nat} (hi : i < n) (x : Int) : MG w (v.setCell ⟨s, i, none⟩ (.int .i64 x)) g s q m n S (Ter.upd f i x) := by
  obtain ⟨a, b, c, h0, h1, h2, h3, h4, h5, hc, hf, hs, hB⟩ := h
  have no : ∀ o, (⟨s, i, none⟩ : Addr) ≠ ⟨g, o, none⟩ := by intro o hx; injection hx with e1 e2; exact c e1.symm
  refine ⟨a, b, c, ?_, ?_, ?_, ?_, ?_, ?_, ?_, fun o => by simp [hf o], by simpa using hs, hB.setCell b _⟩
  · rw [World.cell?_setCell_other _ _ _ _ (no 0)]; exact h0
  · rw [World.cell?_setCell_other _ _ _ _ (no 1)]; exact h1
  · rw [World.cell?_setCell_other _ _ _ _ (no 2)]; exact h2
  · rw [World.cell?_setCell_other _ _ _ _ (no 3)]; exact h3
  · rw [World.cell?_setCell_other _ _ _ _ (no 4)]; exact h4
  · rw [World.cell?_setCell_other _ _ _ _ (no 5)]; exact h5
  · intro j hj
    unfold Ter.upd
    by_cases e : j = i
    · subst e; rw [if_pos rfl]; exact World.cell?_setCell_same _ _ _ (hc j hj)
    · rw [if_neg e, World.cell?_setCell_other _ _ _ _ (by intro hx; injection hx with e1 e2; exact e e2.symm)]; exact hc j hj
theorem made_cell (w : World) (n : Nat) (j : Nat) (hj : j < n) : (w.alloc (.cells (madeCells #[.int .i64 0] n) 3)).cell? ⟨w.heap.size, j, none⟩ = some (.int .i64 0) := by
  simp [madeCells, hj, Nat.mod_one]
theorem MG_A (w : World) (q m n : Nat) (S : Int) : MG w ((w.alloc (.cells (madeCells #[.int .i64 0] n) 3)).alloc (.cells #[.int .i64 0, .int .i64 0, .int .i64 q, .int .i64 m, .int .i64 S, .slice (some ⟨w.heap.size, 0, none⟩) n n] 26)).drew (w.heap.size + 1) w.heap.size q m n S (fun _ => 0) := by
  have e1 : (w.alloc (.cells (madeCells #[.int .i64 0] n) 3)).heap.size = w.heap.size + 1 := by simp
  refine ⟨by omega, by omega, by omega, by rw [← e1]; simp, by rw [← e1]; simp, by rw [← e1]; simp, by rw [← e1]; simp, by rw [← e1]; simp, by rw [← e1]; simp, fun j hj => ?_, fun o => by simp, by simp; omega, ?_⟩
  · exact cell_al (made_cell w n j hj) (.cells #[.int .i64 0, .int .i64 0, .int .i64 q, .int .i64 m, .int .i64 S, .slice (some ⟨w.heap.size, 0, none⟩) n n] 26)
  · exact below_on (below_on (below_al w _) (below_al _ _)) ⟨rfl, rfl, rfl, Nat.le_refl _, fun _ _ => rfl⟩
theorem MG_B (w : World) (q m n : Nat) (S : Int) : MG w ((w.alloc (.cells #[.int .i64 0, .int .i64 0, .int .i64 q, .int .i64 m, .int .i64 S, .slice (some ⟨w.heap.size + 1, 0, none⟩) n n] 26)).alloc (.cells (madeCells #[.int .i64 0] n) 3)).drew w.heap.size (w.heap.size + 1) q m n S (fun _ => 0) := by
  have e1 : (w.alloc (.cells #[.int .i64 0, .int .i64 0, .int .i64 q, .int .i64 m, .int .i64 S, .slice (some ⟨w.heap.size + 1, 0, none⟩) n n] 26)).heap.size = w.heap.size + 1 := by simp
  refine ⟨by omega, by omega, by omega, by simp, by simp, by simp, by simp, by simp, by simp, fun j hj => ?_, fun o => by simp, by simp, ?_⟩
  · have h := made_cell (w.alloc (.cells #[.int .i64 0, .int .i64 0, .int .i64 q, .int .i64 m, .int .i64 S, .slice (some ⟨w.heap.size + 1, 0, none⟩) n n] 26)) n j hj
    rw [e1] at h; exact h
  · exact below_on (below_on (below_al w _) (below_al _ _)) ⟨rfl, rfl, rfl, Nat.le_refl _, fun _ _ => rfl⟩
/-- the numbers of a store into the reflected grid -/
theorem store_nums {m q n r k : Nat} (hm : 2 ≤ m) (hm' : m ≤ 64) (hq : 2 ≤ q) (hq' : q ≤ 64) (hn : n = m * q) (hr : r < q) (hk : k < m) :
    ∃ a p i1 rs : Nat, IntKind.i64.wrap ((m : Int) - 1) = (m : Int) - 1 ∧ IntKind.i64.wrap ((m : Int) - 1 - (k : Int)) = (a : Int) ∧ IntKind.i64.wrap ((a : Int) * (q : Int)) = (p : Int) ∧ IntKind.i64.wrap ((p : Int) + (q : Int)) = (p : Int) + q ∧ IntKind.i64.wrap ((p : Int) + (q : Int) - 1) = (p : Int) + q - 1 ∧
      IntKind.i64.wrap ((p : Int) + (q : Int) - 1 - (r : Int)) = (Ter.tIx m q r k : Int) ∧ IntKind.i64.wrap ((r : Int) * (m : Int)) = (rs : Int) ∧ IntKind.i64.wrap ((rs : Int) + (k : Int)) = (i1 : Int) ∧ i1 = r * m + k ∧ i1 < n ∧ Ter.tIx m q r k < n := by
  have h1 := Ter.tIx_lt (m := m) (q := q) (r := r) (c := k) hr hk
  have h2 : r * m ≤ 63 * 64 := Nat.mul_le_mul (by omega) hm'
  have h3 : (m - 1 - k) * q ≤ 63 * 64 := Nat.mul_le_mul (by omega) hq'
  have h4 : r * m + k < n := by
    have := Nat.mul_le_mul_right m (show r + 1 ≤ q by omega)
    rw [Nat.add_mul, Nat.one_mul] at this
    rw [hn, Nat.mul_comm m q]; omega
  refine ⟨m - 1 - k, (m - 1 - k) * q, r * m + k, r * m, ?_, ?_, ?_, ?_, ?_, ?_, ?_, ?_, rfl, h4, by rw [hn]; exact h1⟩
  · exact IntWalk.i64_in _ (by omega)
  · rw [show (m : Int) - 1 - k = ((m - 1 - k : Nat) : Int) by omega]; exact IntWalk.i64_in _ (by omega)
  · rw [← Int.natCast_mul]; exact IntWalk.i64_in _ (by omega)
  · exact IntWalk.i64_in _ (by omega)
  · exact IntWalk.i64_in _ (by omega)
  · unfold Ter.tIx
    generalize (m - 1 - k) * q = P at *
    rw [show (P : Int) + q - 1 - r = ((P + (q - 1 - r) : Nat) : Int) by omega]; exact IntWalk.i64_in _ (by omega)
  · rw [← Int.natCast_mul]; exact IntWalk.i64_in _ (by omega)
  · rw [← Int.natCast_add]; exact IntWalk.i64_in _ (by omega)
set_option maxRecDepth 100000 in
set_option maxHeartbeats 4000000 in
theorem mirr_yes (x y S : Int) (b off n c m q : Nat) (z : Nat → Int) (col row : Int) (w : World) (hn : n ≤ 4200) (hb : b < w.heap.size) (hA : ∀ j, j < n → w.cell? ⟨b, off + j, none⟩ = some (.int .i64 (z j))) (h : Ter.chk x y m q S n z = 0) (h' : Ter.In2 m q col row) :
    Calls Try.prog 7 #[hgt x y m q S (some ⟨b, off, none⟩) n c, .int .i64 col, .int .i64 row] w fun e w' => e = .returned (.bool true) ∧ Below w.heap.size w w' := by
  have HN : Hid (n = m * q) := by have := (Ter.chk_zero h).2.1; exact Lib.hid (by exact_mod_cast this)
  obtain ⟨-, -, ⟨g5, g6⟩, ⟨g7, g8⟩, ⟨g9, g10⟩, -, -⟩ := (Ter.chk_zero h).1
  have HIN := Lib.hid h'
  obtain ⟨⟨k1, k2⟩, r1, r2⟩ := h'
  have HC := Lib.hid h
  have HI : Ints w w.heap.size (some ⟨b, off, none⟩) n z := fun _ => ⟨b, off, rfl, hb, hA⟩
  have HX := Lib.hid hA
  have MK := Lib.hid (fun v => run_make_row' (P := Try.prog) 24 3 (.int .i64 0) 8 Try.underlying24 Try.infoInt rfl .i64 .i64 n (by omega) (by omega) v)
  clear h hA
  unfold hgt
  have t1 : decide (col < 0) = false := by simp; omega
  have t2 : decide (row < 0) = false := by simp; omega
  have t3 : decide ((m : Int) - 1 ≤ col) = false := by simp; omega
  have t4 : decide ((q : Int) - 1 ≤ row) = false := by simp; omega
  go_enter Try.func7, Try.ntmps7
  go_wp2_with fail
  refine (fair_yes _ _ _ _ _ _ _ _ _ hn).mono ?_
  rintro e w1 ⟨rfl, hb1⟩
  have A1 := Lib.hid ((HI.later (below_box _ _)).later hb1)
  have B1 := Lib.hid hb1
  obtain ⟨hcl, hfz⟩ := bcell hb1
  clear hb1
  go_wp2_with fail
  refine (rcheck_any _ _ _ _ _ _ _ _ z _ hn A1.out).mono ?_
  rintro e w2 ⟨rfl, hb2⟩
  rw [HC.out]
  have B2 := Lib.hid (below_step B1.out hb2)
  have F2 := Lib.hid (below_step (below_box w _) B2.out)
  have hs2 : w.heap.size + 1 ≤ w2.heap.size := by have := B2.out.size; simp at this; omega
  clear hcl hfz hb2 A1 B1
  obtain ⟨hcl, hfz⟩ := bcell B2.out
  have c0 : w2.cell? ⟨w.heap.size, 0, none⟩ = some (.int .i64 x) := by rw [hcl _ _ (by simp)]; simp
  have c1 : w2.cell? ⟨w.heap.size, 1, none⟩ = some (.int .i64 y) := by rw [hcl _ _ (by simp)]; simp
  have c2 : w2.cell? ⟨w.heap.size, 2, none⟩ = some (.int .i64 m) := by rw [hcl _ _ (by simp)]; simp
  have c3 : w2.cell? ⟨w.heap.size, 3, none⟩ = some (.int .i64 q) := by rw [hcl _ _ (by simp)]; simp
  have c4 : w2.cell? ⟨w.heap.size, 4, none⟩ = some (.int .i64 S) := by rw [hcl _ _ (by simp)]; simp
  have c5 : w2.cell? ⟨w.heap.size, 5, none⟩ = some (.slice (some ⟨b, off, none⟩) n c) := by rw [hcl _ _ (by simp)]; simp
  clear hcl hfz
  go_upto_region 3 with fail
  go_cut [7] (fun v wc => ∃ g s : Nat, v = .pointer (some ⟨g, 0, none⟩) ∧ Hid (MG w2 wc g s q m n S (fun _ => 0)))
  case first =>
    have mk := MK.out
    go_region_held3 (fun w' => w'.cell? ⟨w.heap.size, 2, none⟩ = some (.int .i64 m) ∧ w'.cell? ⟨w.heap.size, 3, none⟩ = some (.int .i64 q) ∧ w'.cell? ⟨w.heap.size, 4, none⟩ = some (.int .i64 S) ∧ w'.cell? ⟨w.heap.size, 5, none⟩ = some (.slice (some ⟨b, off, none⟩) n c)) (go_keep) (fail)
    · go_wp2_with fail
      go_meet
      exact ⟨_, _, rfl, Lib.hid (MG_A w2 q m n S)⟩
    · go_wp2_with fail
      go_meet
      exact ⟨_, _, rfl, Lib.hid (MG_B w2 q m n S)⟩
  case rest =>
  obtain ⟨g, s, rfl, HG⟩ := hcut
  generalize wc = w3 at *
  have HCS := Lib.hid (show _ ∧ _ ∧ _ ∧ _ ∧ _ ∧ _ from ⟨c0, c1, c2, c3, c4, c5⟩)
  clear c0 c1 c2 c3 c4 c5 MK t1 t2 t3 t4
  go_wp2_with fail
  go_loopw [8] (fun i wr => ∃ (r : Nat) (f : Nat → Int), r ≤ q ∧ i = .int .i64 r ∧ Hid (MG w2 wr g s q m n S f) ∧ Hid (Ter.Filled z f m q r 0)) (fun i _ => q - (intOf i).toNat)
  case atStart => exact ⟨0, fun _ => 0, by omega, rfl, HG, Lib.hid (Ter.fill_start _ _ _ _)⟩
  case round =>
    clear HG
    obtain ⟨r, f, hr, rfl, HG, HF⟩ := hrel
    have hB := HG.out.2.2.2.2.2.2.2.2.2.2.2.2
    obtain ⟨c0, c1, c2, c3, c4, c5⟩ := HCS.out
    have d2 := cell_on c2 hB
    have d3 := cell_on c3 hB
    clear c0 c1 c2 c3 c4 c5 hB
    by_cases hlt : r < q
    · have hltb : decide (r < q) = true := by simpa using hlt
      go_wp2_with fail
      clear d2 d3 hltb
      go_loopw [9] (fun i wr => ∃ (k : Nat) (f : Nat → Int), k ≤ m ∧ i = .int .i64 k ∧ Hid (MG w2 wr g s q m n S f) ∧ Hid (Ter.Filled z f m q r k)) (fun i _ => m - (intOf i).toNat)
      case atStart => exact ⟨0, f, by omega, rfl, HG, HF⟩
      case round =>
        clear HG HF
        obtain ⟨k, f, hk, rfl, HG, HF⟩ := hrel
        have hB := HG.out.2.2.2.2.2.2.2.2.2.2.2.2
        have HBB := Lib.hid hB
        obtain ⟨c0, c1, c2, c3, c4, c5⟩ := HCS.out
        have d2 := cell_on c2 hB
        have d3 := cell_on c3 hB
        have d5 := cell_on c5 hB
        clear c0 c1 c2 c3 c4 c5 hB
        by_cases hkt : k < m
        · have hktb : decide (k < m) = true := by simpa using hkt
          obtain ⟨a, p, i1, rs, e1, e2, e3, e4, e5, e6, e7, e8, hi1, hi1n, hti⟩ := store_nums (m := m) (q := q) (n := n) (r := r) (k := k) (by omega) (by omega) (by omega) (by omega) HN.out hlt hkt
          have HI1 := Lib.hid hi1
          obtain ⟨-, -, -, -, -, x2, -, -, x5, -, -, -, -⟩ := HG.out
          have FS := Lib.hid (Ter.fill_step HF.out hlt hkt)
          rw [← hi1] at FS
          have HD := Lib.hid (HG.out.later (u := { wr with drawn := wr.drawn + 1 }) ⟨rfl, rfl, rfl, Nat.le_refl _, fun _ _ => rfl⟩)
          have x7 : wr.cell? ⟨b, off + i1, none⟩ = some (.int .i64 (z i1)) := by
            rw [HBB.out.cell (p := ⟨b, off + i1, none⟩) (by show b < _; omega)]; exact cell_in F2.out (HX.out i1 hi1n) hb
          have v1 : (0 : Int) ≤ (i1 : Int) := by omega
          have v2 : (i1 : Int) < (n : Int) := by omega
          have v3 : (0 : Int) ≤ (Ter.tIx m q r k : Int) := by omega
          have v4 : (Ter.tIx m q r k : Int) < (n : Int) := by omega
          have SG := Lib.hid (HD.out.set hti (z i1))
          generalize Ter.tIx m q r k = i2 at *
          clear hi1 HF HG
          go_wp2_with fail
          go_still_tail 26, (by kernel_rfl)
          clear x2 x5 x7 e1 e2 e3 e4 e5 e6 e7 e8 d2 d3 d5 hktb
          generalize ({ wr with drawn := wr.drawn + 1 } : World) = wd at *
          obtain ⟨-, -, -, -, -, -, -, -, -, xr, xf, -, -⟩ := HD.out
          have x6 := xr i2 hti
          have x8 := xf i2
          clear xr xf HD
          go_wp2
          go_roundw
          case rel => exact ⟨k + 1, Ter.upd f i2 (z i1), by omega, by go_num, SG, FS⟩
          case measure => simp [intOf]; omega
        · have hktb : decide (k < m) = false := by simpa using hkt
          have hktb2 : decide ((k : Int) < (m : Int)) = false := by simp; omega
          have HK := Lib.hid (show k = m by omega)
          go_wp2
          go_roundw
          case rel => exact ⟨r + 1, f, by omega, by go_num, HG, Lib.hid (Ter.fill_row (by rw [← HK.out]; have := HF.out; rw [HK.out] at this ⊢; exact this))⟩
          case measure => simp [intOf]; omega
    · have hltb : decide (r < q) = false := by simpa using hlt
      have HF2 : Hid (Ter.Filled z f m q q 0) := Lib.hid (by have := HF.out; rw [show r = q by omega] at this; exact this)
      have hBB := HG.out.2.2.2.2.2.2.2.2.2.2.2.2
      have HBB := Lib.hid hBB
      obtain ⟨c0, c1, c2, c3, c4, c5⟩ := HCS.out
      have y0 := cell_on c0 hBB
      have y1 := cell_on c1 hBB
      have y4 := cell_on c4 hBB
      have y5 := cell_on c5 hBB
      have HBX : Hid (∀ u : World, Below wr.heap.size wr u → u.cell? ⟨w.heap.size, 0, none⟩ = some (.int .i64 x) ∧ u.cell? ⟨w.heap.size, 1, none⟩ = some (.int .i64 y) ∧ u.cell? ⟨w.heap.size, 2, none⟩ = some (.int .i64 m) ∧ u.cell? ⟨w.heap.size, 3, none⟩ = some (.int .i64 q) ∧ u.cell? ⟨w.heap.size, 4, none⟩ = some (.int .i64 S) ∧ u.cell? ⟨w.heap.size, 5, none⟩ = some (.slice (some ⟨b, off, none⟩) n c)) :=
        Lib.hid fun u hu => ⟨cell_on y0 hu, cell_on y1 hu, cell_on d2 hu, cell_on d3 hu, cell_on y4 hu, cell_on y5 hu⟩
      clear c0 c1 c2 c3 c4 c5 hBB y0 y1 y4 y5 HF
      obtain ⟨-, -, -, x0, x1, x2, x3, x4, x5, xr, -, xs, -⟩ := HG.out
      have IX : Hid (Ints wr wr.heap.size (some ⟨s, 0, none⟩) n f) := Lib.hid fun _ => ⟨s, 0, rfl, xs, fun j hj => by simpa using xr j hj⟩
      have IH : Hid (Ints wr wr.heap.size (some ⟨b, off, none⟩) n z) := Lib.hid (HI.later (below_step F2.out HBB.out))
      have FR := Lib.hid (below_step F2.out HBB.out)
      clear xr xs HBB
      go_wp2_with fail
      refine (rcheck_any 0 0 q m S (some ⟨s, 0, none⟩) n n f _ hn IX.out).mono ?_
      rintro e w4 ⟨rfl, hb4⟩
      have HG4 := Lib.hid (HG.out.later hb4)
      have IX4 := Lib.hid (IX.out.later hb4)
      have IH4 := Lib.hid (IH.out.later hb4)
      have F4 := Lib.hid (below_step FR.out hb4)
      have K4 := Lib.hid hb4
      clear hb4 x0 x1 x2 x3 x4 x5 d2 d3 HG IX IH FR
      by_cases hck : Ter.chk 0 0 q m S n f = 0
      · obtain ⟨m1, m2, m3⟩ := Ter.mirrored HF2.out HC.out hck HIN.out
        have T1 := Lib.hid (fun v => Shade_any x y m q S (some ⟨b, off, none⟩) n c z col row v hn)
        have T2 := Lib.hid (fun v => Shade_any 0 0 q m S (some ⟨s, 0, none⟩) n n f ((q : Int) - 2 - row) ((m : Int) - 2 - col) v hn)
        rw [m1] at T1
        rw [m2, m3] at T2
        rw [hck]
        clear hck m1 m2 m3
        generalize Ter.shV x y m q S n z col row = sh at *
        have es : (sh == sh) = true := by simp
        unfold hgt at T1 T2
        obtain ⟨c0, c1, c2, c3, c4, c5⟩ := HBX.out _ K4.out
        go_wp2_with fail
        refine (T1.out _ IH4.out).mono ?_
        rintro e w5 ⟨rfl, hb5⟩
        have HG5 := Lib.hid (HG4.out.later hb5)
        have IX5 := Lib.hid (IX4.out.later hb5)
        have F5 := Lib.hid (below_step F4.out hb5)
        have K5 := Lib.hid (below_step K4.out hb5)
        clear hb5 c0 c1 c2 c3 c4 c5 HG4 IX4 F4 K4 IH4 T1
        obtain ⟨-, -, c2, c3, -, -⟩ := HBX.out _ K5.out
        obtain ⟨-, -, -, x0, x1, x2, x3, x4, x5, -, -, -, -⟩ := HG5.out
        go_wp2_with fail
        refine (T2.out _ IX5.out).mono ?_
        rintro e w6 ⟨rfl, hb6⟩
        have F6 := Lib.hid (below_step F5.out hb6)
        clear hb6 c2 c3 x0 x1 x2 x3 x4 x5 HG5 IX5 F5 K5 T2
        go_wp2_with fail
        refine (awake45 _).mono ?_
        rintro e w7 ⟨rfl, hb7⟩
        have F7 := Lib.hid (below_step F6.out hb7)
        clear hb7
        go_wp2
        go_ret
        exact ⟨rfl, F7.out⟩
      · have hckb : (Ter.chk 0 0 q m S n f != 0) = true := by simpa using hck
        clear hck
        go_wp2_with fail
        refine (awake45 _).mono ?_
        rintro e w5 ⟨rfl, hb5⟩
        have F5 := Lib.hid (below_step F4.out hb5)
        clear hb5
        go_wp2
        go_ret
        exact ⟨rfl, F5.out⟩
set_option maxHeartbeats 1000000 in
theorem mirr_no1 (x y W H S : Int) (A : Option Addr) (n c : Nat) (col row : Int) (w : World) (hn : ¬ n ≤ 4200) :
    Calls Try.prog 7 #[hgt x y W H S A n c, .int .i64 col, .int .i64 row] w fun e w' => e = .returned (.bool true) ∧ Below w.heap.size w w' := by
  unfold hgt
  go_enter Try.func7, Try.ntmps7
  go_wp2_with fail
  refine (fair_no _ _ _ _ _ _ _ _ _ hn).mono ?_
  rintro e w1 ⟨rfl, hb1⟩
  have F := Lib.hid (below_step (below_box w _) hb1)
  clear hb1
  go_wp2_with fail
  refine (awake45 _).mono ?_
  rintro e w2 ⟨rfl, hb2⟩
  have F2 := Lib.hid (below_step F.out hb2)
  clear hb2
  go_wp2
  go_ret
  exact ⟨rfl, F2.out⟩
set_option maxHeartbeats 1000000 in
theorem mirr_no2 (x y W H S : Int) (A : Option Addr) (n c : Nat) (z : Nat → Int) (col row : Int) (w : World) (hn : n ≤ 4200) (hA : Ints w w.heap.size A n z) (h : ¬ (Ter.chk x y W H S n z = 0 ∧ Ter.In2 W H col row)) :
    Calls Try.prog 7 #[hgt x y W H S A n c, .int .i64 col, .int .i64 row] w fun e w' => e = .returned (.bool true) ∧ Below w.heap.size w w' := by
  unfold hgt
  have HH := Lib.hid h
  have H0 := Lib.hid hA
  clear h hA
  go_enter Try.func7, Try.ntmps7
  go_wp2_with fail
  refine (fair_yes _ _ _ _ _ _ _ _ _ hn).mono ?_
  rintro e w1 ⟨rfl, hb1⟩
  have A1 := Lib.hid ((H0.out.later (below_box _ _)).later hb1)
  have B1 := Lib.hid hb1
  obtain ⟨hcl, hfz⟩ := bcell hb1
  clear hb1
  go_wp2_with fail
  refine (rcheck_any _ _ _ _ _ _ _ _ z _ hn A1.out).mono ?_
  rintro e w2 ⟨rfl, hb2⟩
  have B2 := Lib.hid (below_step B1.out hb2)
  have F2 := Lib.hid (below_step (below_box w _) B2.out)
  clear hcl hfz hb2 A1 B1
  obtain ⟨hcl, hfz⟩ := bcell B2.out
  by_cases hc : Ter.chk x y W H S n z = 0
  · have hni := HH.out
    simp only [hc, true_and] at hni
    obtain ⟨-, -, ⟨g5, g6⟩, ⟨g7, g8⟩, -, -, -⟩ := (Ter.chk_zero hc).1
    have HN := Lib.hid hni
    rw [hc]
    clear hc hni
    go_wp2_with fail
    all_goals first
      | (exfalso; exact HN.out ⟨⟨by omega, by omega⟩, by omega, by omega⟩)
      | (refine (awake45 _).mono ?_
         rintro e w3 ⟨rfl, hb3⟩
         have F3 := Lib.hid (below_step F2.out hb3)
         clear hb3
         go_wp2
         go_ret
         exact ⟨rfl, F3.out⟩)
  · have hb : (Ter.chk x y W H S n z != 0) = true := by simpa using hc
    clear hc
    go_wp2_with fail
    refine (awake45 _).mono ?_
    rintro e w3 ⟨rfl, hb3⟩
    have F3 := Lib.hid (below_step F2.out hb3)
    clear hb3
    go_wp2
    go_ret
    exact ⟨rfl, F3.out⟩
theorem mirr_any (x y W H S : Int) (A : Option Addr) (n c : Nat) (z : Nat → Int) (col row : Int) (w : World) (hA : Ints w w.heap.size A n z) :
    Calls Try.prog 7 #[hgt x y W H S A n c, .int .i64 col, .int .i64 row] w fun e w' => e = .returned (.bool true) ∧ Below w.heap.size w w' := by
  by_cases hn : n ≤ 4200
  · by_cases h : Ter.chk x y W H S n z = 0 ∧ Ter.In2 W H col row
    · obtain ⟨h, h'⟩ := h
      obtain ⟨⟨-, -, ⟨g5, g6⟩, ⟨g7, g8⟩, -, -, -⟩, hw, -⟩ := Ter.chk_zero h
      have h4 : 4 ≤ W * H := Int.mul_le_mul g5 g7 (by omega) (by omega)
      obtain ⟨b, off, rfl, hb, hc⟩ := hA (by omega)
      obtain ⟨m, rfl⟩ := Int.eq_ofNat_of_zero_le (show 0 ≤ W by omega)
      obtain ⟨q, rfl⟩ := Int.eq_ofNat_of_zero_le (show 0 ≤ H by omega)
      exact mirr_yes x y S b off n c m q z col row w hn hb hc h h'
    · exact mirr_no2 x y W H S A n c z col row w hn hA h
  · exact mirr_no1 x y W H S A n c col row w hn
end Go.Proofs.Ythgdmcjahldihaa
