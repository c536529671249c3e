/- ReliefTurned returns true: the walk. -/
import Derived.Test.YthgdmcjahldihaaRelL
import Derived.Test.YthgdmcjahldihaaRelJ
import Derived.Test.YthgdmcjahldihaaRelPlainB
import Derived.StillTailTactics
import Derived.Deep.AppendLies
import Derived.Deep.RegionLaw
namespace Go.Proofs.Ythgdmcjahldihaa
open Go.RowKit
set_option linter.unusedVariables false

set_option maxHeartbeats 1000000 in
theorem turned_yes (x y S : Int) (b off n c m q : Nat) (z : Nat → Int) (col row : Int) (w : World) (hn : n ≤ 4200) (hb : b < w.heap.size) (hA : ∀ j, j < n → w.cell? ⟨b, off + j, none⟩ = some (.int .i64 (z j))) (h : Ter.chk x y m q S n z = 0) (h' : Ter.In2 m q col row) :
    Calls Try.prog 6 #[hgt x y m q S (some ⟨b, off, none⟩) n c, .int .i64 col, .int .i64 row] w fun e w' => e = .returned (.bool true) ∧ Below w.heap.size w w' := by
  have HZ := Lib.hid (Ter.chk_zero h).2.2
  obtain ⟨-, -, ⟨g5, g6⟩, ⟨g7, g8⟩, ⟨g9, g10⟩, -, -⟩ := (Ter.chk_zero h).1
  obtain ⟨⟨k1, k2⟩, r1, r2⟩ := h'
  have HC := Lib.hid h
  have HI : Ints w w.heap.size (some ⟨b, off, none⟩) n z := fun _ => ⟨b, off, rfl, hb, hA⟩
  have HX := Lib.hid hA
  obtain ⟨i0, hi, hz0, hz1, hz2⟩ := info_parts Try.infoInt
  clear h hA
  unfold hgt
  have t1 : decide (col < 0) = false := by simp; omega
  have t2 : decide (row < 0) = false := by simp; omega
  have t3 : decide ((m : Int) - 1 ≤ col) = false := by simp; omega
  have t4 : decide ((q : Int) - 1 ≤ row) = false := by simp; omega
  go_enter Try.func6, Try.ntmps6
  go_wp2_with fail
  refine (fair_yes _ _ _ _ _ _ _ _ _ hn).mono ?_
  rintro e w1 ⟨rfl, hb1⟩
  have A1 := Lib.hid ((HI.later (below_box _ _)).later hb1)
  have B1 := Lib.hid hb1
  obtain ⟨hcl, hfz⟩ := bcell hb1
  clear hb1
  go_wp2_with fail
  refine (rcheck_any _ _ _ _ _ _ _ _ z _ hn A1.out).mono ?_
  rintro e w2 ⟨rfl, hb2⟩
  rw [HC.out]
  have B2 := Lib.hid (below_step B1.out hb2)
  have F2 := Lib.hid (below_step (below_box w _) B2.out)
  have hs2 : w.heap.size + 1 ≤ w2.heap.size := by have := B2.out.size; simp at this; omega
  clear hcl hfz hb2 A1 B1
  obtain ⟨hcl, hfz⟩ := bcell B2.out
  go_wp2_with fail
  go_loopw [8] (fun i wr => ∃ k : Nat, k ≤ n ∧ i = .int .i64 k ∧ GridRel w2.heap.size w2 x y m q S (fun j => -z j) k wr)
    (fun i _ => n - (intOf i).toNat)
  case atStart =>
    refine ⟨0, Nat.zero_le _, rfl, none, 0, [], rfl, fun j hj => absurd hj (by omega), ?_⟩
    exact ⟨below_box _ _, heap_alloc_new _ _, World.ownsRow_nil _ _ _ _⟩
  case round =>
    clear hcl hfz
    obtain ⟨k, hk, rfl, a, cap, l, hl, hj, GR⟩ := hrel
    have HL := Lib.hid hl
    have HJ := Lib.hid hj
    have HG := Lib.hid GR
    have hlen : l.length ≤ 4200 := by omega
    have hgs := GR.size
    obtain ⟨gc0, gc1, gc2, gc3, gc4, gc5⟩ := GR.cells
    have gf5 := GR.free 5
    have bx : wr.cell? ⟨w.heap.size, 5, none⟩ = some (.slice (some ⟨b, off, none⟩) n c) := by
      rw [GR.1.cell (p := ⟨w.heap.size, 5, none⟩) (by show w.heap.size < _; omega), (bcell B2.out).1 _ _ (by simp)]; simp
    clear hl hj GR
    by_cases hlt : k < n
    · have hc : wr.cell? ⟨b, off + k, none⟩ = some (.int .i64 (z k)) := by
        rw [HG.out.1.cell (p := ⟨b, off + k, none⟩) (by show b < _; omega)]; exact cell_in F2.out (HX.out k hlt) hb
      obtain ⟨zl, zh⟩ := HZ.out k hlt
      go_wp2_with fail
      have hz9 : IntKind.i64.wrap (-z k) = -z k := IntWalk.i64_in _ (by omega)
      have hnn : (0 : Int) ≤ (k : Int) := by omega
      have hkn : (k : Int) < (n : Int) := by omega
      have gd5 : (wr.alloc (.cells #[.int .i64 (-z k)] 3)).cell? ⟨w2.heap.size, 5, none⟩ = some (.slice a l.length cap) := by rw [World.cell?_alloc_past _ _ _ (by show w2.heap.size < _; omega)]; exact gc5
      go_region_law ((refine step_append_lies _ (by rfl) _ _ _ (by rfl) (w2.heap.size + 1) 3 i0 _ 1 8 Try.underlying24 hi hz0 hz1 hz2 rfl (by omega) (.slice a l.length cap) l.length (l.map (Value.int .i64)) (by rfl) ((HG.out.2.2.alloc _).drew) ⟨wr.heap.size, 0, none⟩ 1 1 [.int .i64 (-z k)] (by rfl) (by rfl) (World.news_of_block (cs := #[.int .i64 (-z k)]) (t := 3) (fr := (0, 0)) (heap_alloc_new wr _)) (by simp [Value.oneCell']) (by omega) (by unfold maxLen; omega) (by omega) (by simp; omega) (wr.heap.size + 1) (by simp) ?_; intro g' cap' w4 hown hgrow hat hlt4; obtain ⟨hfz4, hc4⟩ := HG.out.appendFree ⟨hgrow.os, hgrow.tape, hgrow.output, hgrow.size, hgrow.block⟩))
      all_goals
        clear hz9
        obtain ⟨a', cap'', hv, G3, -⟩ := HG.out.append hown ⟨hgrow.os, hgrow.tape, hgrow.output, hgrow.size, hgrow.block⟩
        have HR2 := Lib.hid (GridRel.snoc (f := fun j => -z j) HL.out HJ.out rfl G3)
        clear hv G3 hown hgrow gc0 gc1 gc2 gc3 gc4 gc5 gf5 gd5 bx hc HL HJ hgs hfz4 hc4 HG hat hlt4
        go_wp2
        go_roundw
        case rel => exact ⟨k + 1, by omega, by go_num, HR2.out⟩
        case measure => simp [intOf]; omega
    · have HK := Lib.hid (show l.length = n by have := HL.out; omega)
      have HX2 := Lib.hid (HG.out.ints (fun j => -z j) (fun j hjl => HJ.out j (by have := HL.out; omega)))
      have F3 := Lib.hid (F2.out.trans (HG.out.1.mono (by omega)))
      have A3 := Lib.hid (HI.later F3.out)
      have V := Lib.hid (Ter.shV_neg HC.out ⟨⟨k1, k2⟩, r1, r2⟩)
      have bb : ∀ o, wr.cell? ⟨w.heap.size, o, none⟩ = (w.alloc (.cells #[.int .i64 x, .int .i64 y, .int .i64 m, .int .i64 q, .int .i64 S, .slice (some ⟨b, off, none⟩) n c] 26)).cell? ⟨w.heap.size, o, none⟩ := fun o => by
        rw [HG.out.1.cell (p := ⟨w.heap.size, o, none⟩) (by show w.heap.size < _; omega), (bcell B2.out).1 _ _ (by simp)]
      go_wp2_with fail
      refine (Shade_any x y m q S _ n c z col row _ hn A3.out).mono ?_
      rintro e w5 ⟨rfl, hb5⟩
      rw [V.out.1.1]
      have G5 := Lib.hid (HG.out.later hb5)
      clear bx gc0 gc1 gc2 gc3 gc4 gc5 gf5 bb HG hgs
      have X5 := Lib.hid (HX2.out.later hb5)
      have F5 := Lib.hid (below_step F3.out hb5)
      clear hb5
      obtain ⟨gc0, gc1, gc2, gc3, gc4, gc5⟩ := G5.out.cells
      rw [HK.out] at X5
      go_wp2_with fail
      rw [HK.out]
      refine (Shade_any x y m q S _ n cap (fun j => -z j) col row _ hn X5.out).mono ?_
      rintro e w6 ⟨rfl, hb6⟩
      rw [V.out.1.2]
      have F6 := Lib.hid (below_step F5.out hb6)
      obtain ⟨⟨v1, v2⟩, ⟨v3, v4⟩, v5⟩ := V.out.2
      clear hb6 gc0 gc1 gc2 gc3 gc4 gc5
      generalize Ter.shV x y m q S n z col row = s1 at *
      generalize Ter.shV x y m q S n (fun j => -z j) col row = s2 at *
      clear V
      rcases v5 with v5 | v5
      · have q1 : (s1 + s2 == 100) = true := by simp [v5]
        clear v5
        go_wp2_with fail
        refine (awake45 _).mono ?_
        rintro e w7 ⟨rfl, hb7⟩
        have F7 := Lib.hid (below_step F6.out hb7)
        clear hb7
        go_wp2
        go_ret
        exact ⟨rfl, F7.out⟩
      · have q1 : (s1 + s2 == 100) = false := by simp [v5]
        have q2 : (s1 + s2 == 99) = true := by simp [v5]
        clear v5
        go_wp2_with fail
        refine (awake45 _).mono ?_
        rintro e w7 ⟨rfl, hb7⟩
        have F7 := Lib.hid (below_step F6.out hb7)
        clear hb7
        go_wp2
        go_ret
        exact ⟨rfl, F7.out⟩

set_option maxHeartbeats 1000000 in
theorem turned_no1 (x y W H S : Int) (A : Option Addr) (n c : Nat) (col row : Int) (w : World) (hn : ¬ n ≤ 4200) :
    Calls Try.prog 6 #[hgt x y W H S A n c, .int .i64 col, .int .i64 row] w fun e w' => e = .returned (.bool true) ∧ Below w.heap.size w w' := by
  unfold hgt
  go_enter Try.func6, Try.ntmps6
  go_wp2_with fail
  refine (fair_no _ _ _ _ _ _ _ _ _ hn).mono ?_
  rintro e w1 ⟨rfl, hb1⟩
  have F := Lib.hid (below_step (below_box w _) hb1)
  clear hb1
  go_wp2_with fail
  refine (awake45 _).mono ?_
  rintro e w2 ⟨rfl, hb2⟩
  have F2 := Lib.hid (below_step F.out hb2)
  clear hb2
  go_wp2
  go_ret
  exact ⟨rfl, F2.out⟩
set_option maxHeartbeats 1000000 in
theorem turned_no2 (x y W H S : Int) (A : Option Addr) (n c : Nat) (z : Nat → Int) (col row : Int) (w : World) (hn : n ≤ 4200) (hA : Ints w w.heap.size A n z) (h : ¬ (Ter.chk x y W H S n z = 0 ∧ Ter.In2 W H col row)) :
    Calls Try.prog 6 #[hgt x y W H S A n c, .int .i64 col, .int .i64 row] w fun e w' => e = .returned (.bool true) ∧ Below w.heap.size w w' := by
  unfold hgt
  have HH := Lib.hid h
  have H0 := Lib.hid hA
  clear h hA
  go_enter Try.func6, Try.ntmps6
  go_wp2_with fail
  refine (fair_yes _ _ _ _ _ _ _ _ _ hn).mono ?_
  rintro e w1 ⟨rfl, hb1⟩
  have A1 := Lib.hid ((H0.out.later (below_box _ _)).later hb1)
  have B1 := Lib.hid hb1
  obtain ⟨hcl, hfz⟩ := bcell hb1
  clear hb1
  go_wp2_with fail
  refine (rcheck_any _ _ _ _ _ _ _ _ z _ hn A1.out).mono ?_
  rintro e w2 ⟨rfl, hb2⟩
  have B2 := Lib.hid (below_step B1.out hb2)
  have F2 := Lib.hid (below_step (below_box w _) B2.out)
  clear hcl hfz hb2 A1 B1
  obtain ⟨hcl, hfz⟩ := bcell B2.out
  by_cases hc : Ter.chk x y W H S n z = 0
  · have hni := HH.out
    simp only [hc, true_and] at hni
    obtain ⟨-, -, ⟨g5, g6⟩, ⟨g7, g8⟩, -, -, -⟩ := (Ter.chk_zero hc).1
    have HN := Lib.hid hni
    rw [hc]
    clear hc hni
    go_wp2_with fail
    all_goals first
      | (exfalso; exact HN.out ⟨⟨by omega, by omega⟩, by omega, by omega⟩)
      | (refine (awake45 _).mono ?_
         rintro e w3 ⟨rfl, hb3⟩
         have F3 := Lib.hid (below_step F2.out hb3)
         clear hb3
         go_wp2
         go_ret
         exact ⟨rfl, F3.out⟩)
  · have hb : (Ter.chk x y W H S n z != 0) = true := by simpa using hc
    clear hc
    go_wp2_with fail
    refine (awake45 _).mono ?_
    rintro e w3 ⟨rfl, hb3⟩
    have F3 := Lib.hid (below_step F2.out hb3)
    clear hb3
    go_wp2
    go_ret
    exact ⟨rfl, F3.out⟩
theorem turned_any (x y W H S : Int) (A : Option Addr) (n c : Nat) (z : Nat → Int) (col row : Int) (w : World) (hA : Ints w w.heap.size A n z) :
    Calls Try.prog 6 #[hgt x y W H S A n c, .int .i64 col, .int .i64 row] w fun e w' => e = .returned (.bool true) ∧ Below w.heap.size w w' := by
  by_cases hn : n ≤ 4200
  · by_cases h : Ter.chk x y W H S n z = 0 ∧ Ter.In2 W H col row
    · obtain ⟨h, h'⟩ := h
      obtain ⟨⟨-, -, ⟨g5, g6⟩, ⟨g7, g8⟩, -, -, -⟩, hw, -⟩ := Ter.chk_zero h
      have h4 : 4 ≤ W * H := Int.mul_le_mul g5 g7 (by omega) (by omega)
      obtain ⟨b, off, rfl, hb, hc⟩ := hA (by omega)
      obtain ⟨m, rfl⟩ := Int.eq_ofNat_of_zero_le (show 0 ≤ W by omega)
      obtain ⟨q, rfl⟩ := Int.eq_ofNat_of_zero_le (show 0 ≤ H by omega)
      exact turned_yes x y S b off n c m q z col row w hn hb hc h h'
    · exact turned_no2 x y W H S A n c z col row w hn hA h
  · exact turned_no1 x y W H S A n c col row w hn
end Go.Proofs.Ythgdmcjahldihaa
