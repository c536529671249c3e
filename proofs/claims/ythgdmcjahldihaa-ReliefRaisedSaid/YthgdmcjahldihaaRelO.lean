/- ReliefRaised returns true: the walk. -/
import Derived.Test.YthgdmcjahldihaaRelL
import Derived.Test.YthgdmcjahldihaaRelJ
import Derived.Test.YthgdmcjahldihaaRelPlainB
import Derived.StillTailTactics
import Derived.Deep.AppendLies
import Derived.Deep.RegionLaw
namespace Go.Proofs.Ythgdmcjahldihaa
open Go.RowKit
set_option linter.unusedVariables false

set_option maxHeartbeats 1000000 in
theorem raised_yes (x y S : Int) (b off n c m q : Nat) (z : Nat → Int) (d : Int) (w : World) (hn : n ≤ 4200) (hb : b < w.heap.size) (hA : ∀ j, j < n → w.cell? ⟨b, off + j, none⟩ = some (.int .i64 (z j))) (h : Ter.chk x y m q S n z = 0) (r1 : -20000 ≤ d) (r2 : d ≤ 20000) :
    Calls Try.prog 5 #[hgt x y m q S (some ⟨b, off, none⟩) n c, .int .i64 d] w fun e w' => e = .returned (.bool true) ∧ Below w.heap.size w w' := by
  have HZ := Lib.hid (Ter.chk_zero h).2.2
  obtain ⟨-, -, ⟨g5, g6⟩, ⟨g7, g8⟩, ⟨g9, g10⟩, -, -⟩ := (Ter.chk_zero h).1
  have HC := Lib.hid h
  have HI : Ints w w.heap.size (some ⟨b, off, none⟩) n z := fun _ => ⟨b, off, rfl, hb, hA⟩
  have HX := Lib.hid hA
  obtain ⟨i0, hi, hz0, hz1, hz2⟩ := info_parts Try.infoInt
  clear h hA
  unfold hgt
  have t1 : decide (d < -20000) = false := by simp; omega
  have t2 : decide (20000 < d) = false := by simp; omega
  go_enter Try.func5, Try.ntmps5
  go_wp2_with fail
  refine (fair_yes _ _ _ _ _ _ _ _ _ hn).mono ?_
  rintro e w1 ⟨rfl, hb1⟩
  have A1 := Lib.hid ((HI.later (below_box _ _)).later hb1)
  have B1 := Lib.hid hb1
  obtain ⟨hcl, hfz⟩ := bcell hb1
  clear hb1
  go_wp2_with fail
  refine (rcheck_any _ _ _ _ _ _ _ _ z _ hn A1.out).mono ?_
  rintro e w2 ⟨rfl, hb2⟩
  rw [HC.out]
  have B2 := Lib.hid (below_step B1.out hb2)
  have F2 := Lib.hid (below_step (below_box w _) B2.out)
  have hs2 : w.heap.size + 1 ≤ w2.heap.size := by have := B2.out.size; simp at this; omega
  clear hcl hfz hb2 A1 B1
  obtain ⟨hcl, hfz⟩ := bcell B2.out
  go_wp2_with fail
  go_loopw [6] (fun i wr => ∃ k : Nat, k ≤ n ∧ i = .int .i64 k ∧ GridRel w2.heap.size w2 x y m q S (fun j => z j + d) k wr)
    (fun i _ => n - (intOf i).toNat)
  case atStart =>
    refine ⟨0, Nat.zero_le _, rfl, none, 0, [], rfl, fun j hj => absurd hj (by omega), ?_⟩
    exact ⟨below_box _ _, heap_alloc_new _ _, World.ownsRow_nil _ _ _ _⟩
  case round =>
    clear hcl hfz
    obtain ⟨k, hk, rfl, a, cap, l, hl, hj, GR⟩ := hrel
    have HL := Lib.hid hl
    have HJ := Lib.hid hj
    have HG := Lib.hid GR
    have hlen : l.length ≤ 4200 := by omega
    have hgs := GR.size
    obtain ⟨gc0, gc1, gc2, gc3, gc4, gc5⟩ := GR.cells
    have gf5 := GR.free 5
    have bx : wr.cell? ⟨w.heap.size, 5, none⟩ = some (.slice (some ⟨b, off, none⟩) n c) := by
      rw [GR.1.cell (p := ⟨w.heap.size, 5, none⟩) (by show w.heap.size < _; omega), (bcell B2.out).1 _ _ (by simp)]; simp
    clear hl hj GR
    by_cases hlt : k < n
    · have hc : wr.cell? ⟨b, off + k, none⟩ = some (.int .i64 (z k)) := by
        rw [HG.out.1.cell (p := ⟨b, off + k, none⟩) (by show b < _; omega)]; exact cell_in F2.out (HX.out k hlt) hb
      obtain ⟨zl, zh⟩ := HZ.out k hlt
      go_wp2_with fail
      have hz9 : IntKind.i64.wrap (z k + d) = z k + d := IntWalk.i64_in _ (by omega)
      have hnn : (0 : Int) ≤ (k : Int) := by omega
      have hkn : (k : Int) < (n : Int) := by omega
      have gd5 : (wr.alloc (.cells #[.int .i64 (z k + d)] 3)).cell? ⟨w2.heap.size, 5, none⟩ = some (.slice a l.length cap) := by rw [World.cell?_alloc_past _ _ _ (by show w2.heap.size < _; omega)]; exact gc5
      go_region_law ((refine step_append_lies _ (by rfl) _ _ _ (by rfl) (w2.heap.size + 1) 3 i0 _ 1 8 Try.underlying24 hi hz0 hz1 hz2 rfl (by omega) (.slice a l.length cap) l.length (l.map (Value.int .i64)) (by rfl) ((HG.out.2.2.alloc _).drew) ⟨wr.heap.size, 0, none⟩ 1 1 [.int .i64 (z k + d)] (by rfl) (by rfl) (World.news_of_block (cs := #[.int .i64 (z k + d)]) (t := 3) (fr := (0, 0)) (heap_alloc_new wr _)) (by simp [Value.oneCell']) (by omega) (by unfold maxLen; omega) (by omega) (by simp; omega) (wr.heap.size + 1) (by simp) ?_; intro g' cap' w4 hown hgrow hat hlt4; obtain ⟨hfz4, hc4⟩ := HG.out.appendFree ⟨hgrow.os, hgrow.tape, hgrow.output, hgrow.size, hgrow.block⟩))
      all_goals
        clear hz9
        obtain ⟨a', cap'', hv, G3, -⟩ := HG.out.append hown ⟨hgrow.os, hgrow.tape, hgrow.output, hgrow.size, hgrow.block⟩
        have HR2 := Lib.hid (GridRel.snoc (f := fun j => z j + d) HL.out HJ.out rfl G3)
        clear hv G3 hown hgrow gc0 gc1 gc2 gc3 gc4 gc5 gf5 gd5 bx hc HL HJ hgs hfz4 hc4 HG hat hlt4
        go_wp2
        go_roundw
        case rel => exact ⟨k + 1, by omega, by go_num, HR2.out⟩
        case measure => simp [intOf]; omega
    · have HK := Lib.hid (show l.length = n by have := HL.out; omega)
      have HX2 := Lib.hid (HG.out.ints (fun j => z j + d) (fun j hjl => HJ.out j (by have := HL.out; omega)))
      have F3 := Lib.hid (F2.out.trans (HG.out.1.mono (by omega)))
      have A3 := Lib.hid (HI.later F3.out)
      have bb : ∀ o, wr.cell? ⟨w.heap.size, o, none⟩ = (w.alloc (.cells #[.int .i64 x, .int .i64 y, .int .i64 m, .int .i64 q, .int .i64 S, .slice (some ⟨b, off, none⟩) n c] 26)).cell? ⟨w.heap.size, o, none⟩ := fun o => by
        rw [HG.out.1.cell (p := ⟨w.heap.size, o, none⟩) (by show w.heap.size < _; omega), (bcell B2.out).1 _ _ (by simp)]
      have BB := Lib.hid bb
      clear bb
      have HX3 : Hid (Ints wr wr.heap.size a n (fun j => z j + d)) := by have := HX2.out; rw [HK.out] at this; exact this
      clear HX2
      go_wp2_with fail
      rw [HK.out]
      refine (rcheck_any x y m q S a n cap (fun j => z j + d) wr hn HX3.out).mono ?_
      rintro e w5 ⟨rfl, hb5⟩
      have HG5 := Lib.hid (HG.out.later hb5)
      have F5 := Lib.hid (below_step F3.out hb5)
      have A5 := Lib.hid (A3.out.later hb5)
      have X5 := Lib.hid (HX3.out.later hb5)
      have hs5 : w.heap.size < wr.heap.size := by omega
      have bb5 : ∀ o, w5.cell? ⟨w.heap.size, o, none⟩ = (w.alloc (.cells #[.int .i64 x, .int .i64 y, .int .i64 m, .int .i64 q, .int .i64 S, .slice (some ⟨b, off, none⟩) n c] 26)).cell? ⟨w.heap.size, o, none⟩ := fun o => by
        rw [(bcell hb5).1 _ _ hs5]; exact BB.out o
      clear bx hb5 gc0 gc1 gc2 gc3 gc4 gc5 gf5 hgs HG
      by_cases hck : Ter.chk x y m q S n (fun j => z j + d) = 0
      · have HK2 := Lib.hid hck
        rw [hck]
        clear hck
        have P1 := Lib.hid (All_any x y m q S (some ⟨b, off, none⟩) n c z w5 hn A5.out HC.out)
        unfold hgt at P1
        go_wp2_with fail
        refine P1.out.mono ?_
        rintro e w6 ⟨a1, cap1, rfl, hi6, hb6⟩
        clear bb5 P1
        have hG6 := HG5.out.later (below_step hb6 (below_box _ (.cells #[.int .i64 ((m : Int) - 1), .int .i64 ((q : Int) - 1), .slice a1 (((q : Int).toNat - 1) * ((m : Int).toNat - 1)) cap1] 36)))
        have F6 := Lib.hid (below_step F5.out hb6)
        have X6 := Lib.hid ((X5.out.later hb6).later (below_box _ (.cells #[.int .i64 ((m : Int) - 1), .int .i64 ((q : Int) - 1), .slice a1 (((q : Int).toNat - 1) * ((m : Int).toNat - 1)) cap1] 36)))
        have I6 := Lib.hid hi6
        clear hb6 hi6
        have hNN : ((q : Int).toNat - 1) * ((m : Int).toNat - 1) ≤ 4200 := by
          have : ((q : Int).toNat - 1) * ((m : Int).toNat - 1) ≤ 63 * 63 := Nat.mul_le_mul (by omega) (by omega)
          omega
        have P2 := Lib.hid (All_any x y m q S a n cap (fun j => z j + d) _ hn X6.out HK2.out)
        unfold hgt at P2
        generalize hNe : ((q : Int).toNat - 1) * ((m : Int).toNat - 1) = N at *
        have HNe := Lib.hid hNe
        clear hNe
        obtain ⟨gc0, gc1, gc2, gc3, gc4, gc5⟩ := hG6.cells
        rw [HK.out] at gc5
        clear hG6
        go_wp2_with fail
        refine P2.out.mono ?_
        rintro e w7 ⟨a2, cap2, rfl, hi7, hb7⟩
        have F7 := Lib.hid (below_step (below_step F6.out (below_box _ _)) hb7)
        have I7 := Lib.hid hi7
        have J7 := Lib.hid ((I6.out.later (below_box _ _)).later hb7)
        have hs7 : w6.heap.size < w7.heap.size := by have := hb7.size; simp at this; omega
        have HP7 := Lib.hid (hb7.block w6.heap.size (by simp))
        clear gc0 gc1 gc2 gc3 gc4 gc5 P2
        obtain ⟨hcl, hfz⟩ := bcell hb7
        clear hb7 hi7
        go_wp2_with fail
        refine (Same_yes ((m : Int) - 1) ((q : Int) - 1) a1 a2 N cap1 cap2 (Ter.cellAt z (m : Int).toNat S) (Ter.cellAt (fun j => z j + d) (m : Int).toNat S) _ hNN (J7.out.later (below_box _ _)) (I7.out.later (below_box _ _)) (fun j _ => (Ter.cellAt_raise z d _ S j).symm)).mono ?_
        rintro e w8 ⟨rfl, hb8⟩
        have F8 := Lib.hid (below_step (below_step F7.out (below_box _ _)) hb8)
        clear hb8 hcl hfz
        go_wp2_with fail
        refine (awake45 _).mono ?_
        rintro e w9 ⟨rfl, hb9⟩
        have F9 := Lib.hid (below_step F8.out hb9)
        clear hb9
        go_wp2
        go_ret
        exact ⟨rfl, F9.out⟩
      · have hckb : (Ter.chk x y m q S n (fun j => z j + d) != 0) = true := by simpa using hck
        clear hck bb5
        go_wp2_with fail
        refine (awake45 _).mono ?_
        rintro e w6 ⟨rfl, hb6⟩
        have F6 := Lib.hid (below_step F5.out hb6)
        clear hb6
        go_wp2
        go_ret
        exact ⟨rfl, F6.out⟩

set_option maxHeartbeats 1000000 in
theorem raised_no1 (x y W H S : Int) (A : Option Addr) (n c : Nat) (d : Int) (w : World) (hn : ¬ n ≤ 4200) :
    Calls Try.prog 5 #[hgt x y W H S A n c, .int .i64 d] w fun e w' => e = .returned (.bool true) ∧ Below w.heap.size w w' := by
  unfold hgt
  go_enter Try.func5, Try.ntmps5
  go_wp2_with fail
  refine (fair_no _ _ _ _ _ _ _ _ _ hn).mono ?_
  rintro e w1 ⟨rfl, hb1⟩
  have F := Lib.hid (below_step (below_box w _) hb1)
  clear hb1
  go_wp2_with fail
  refine (awake45 _).mono ?_
  rintro e w2 ⟨rfl, hb2⟩
  have F2 := Lib.hid (below_step F.out hb2)
  clear hb2
  go_wp2
  go_ret
  exact ⟨rfl, F2.out⟩
set_option maxHeartbeats 1000000 in
theorem raised_no2 (x y W H S : Int) (A : Option Addr) (n c : Nat) (z : Nat → Int) (d : Int) (w : World) (hn : n ≤ 4200) (hA : Ints w w.heap.size A n z) (h : ¬ (Ter.chk x y W H S n z = 0 ∧ (-20000 ≤ d ∧ d ≤ 20000))) :
    Calls Try.prog 5 #[hgt x y W H S A n c, .int .i64 d] w fun e w' => e = .returned (.bool true) ∧ Below w.heap.size w w' := by
  unfold hgt
  have HH := Lib.hid h
  have H0 := Lib.hid hA
  clear h hA
  go_enter Try.func5, Try.ntmps5
  go_wp2_with fail
  refine (fair_yes _ _ _ _ _ _ _ _ _ hn).mono ?_
  rintro e w1 ⟨rfl, hb1⟩
  have A1 := Lib.hid ((H0.out.later (below_box _ _)).later hb1)
  have B1 := Lib.hid hb1
  obtain ⟨hcl, hfz⟩ := bcell hb1
  clear hb1
  go_wp2_with fail
  refine (rcheck_any _ _ _ _ _ _ _ _ z _ hn A1.out).mono ?_
  rintro e w2 ⟨rfl, hb2⟩
  have B2 := Lib.hid (below_step B1.out hb2)
  have F2 := Lib.hid (below_step (below_box w _) B2.out)
  clear hcl hfz hb2 A1 B1
  obtain ⟨hcl, hfz⟩ := bcell B2.out
  by_cases hc : Ter.chk x y W H S n z = 0
  · have hni := HH.out
    simp only [hc, true_and] at hni
    obtain ⟨-, -, ⟨g5, g6⟩, ⟨g7, g8⟩, -, -, -⟩ := (Ter.chk_zero hc).1
    have HN := Lib.hid hni
    rw [hc]
    clear hc hni
    go_wp2_with fail
    all_goals first
      | (exfalso; exact HN.out ⟨by omega, by omega⟩)
      | (refine (awake45 _).mono ?_
         rintro e w3 ⟨rfl, hb3⟩
         have F3 := Lib.hid (below_step F2.out hb3)
         clear hb3
         go_wp2
         go_ret
         exact ⟨rfl, F3.out⟩)
  · have hb : (Ter.chk x y W H S n z != 0) = true := by simpa using hc
    clear hc
    go_wp2_with fail
    refine (awake45 _).mono ?_
    rintro e w3 ⟨rfl, hb3⟩
    have F3 := Lib.hid (below_step F2.out hb3)
    clear hb3
    go_wp2
    go_ret
    exact ⟨rfl, F3.out⟩
theorem raised_any (x y W H S : Int) (A : Option Addr) (n c : Nat) (z : Nat → Int) (d : Int) (w : World) (hA : Ints w w.heap.size A n z) :
    Calls Try.prog 5 #[hgt x y W H S A n c, .int .i64 d] w fun e w' => e = .returned (.bool true) ∧ Below w.heap.size w w' := by
  by_cases hn : n ≤ 4200
  · by_cases h : Ter.chk x y W H S n z = 0 ∧ (-20000 ≤ d ∧ d ≤ 20000)
    · obtain ⟨h, h'⟩ := h
      obtain ⟨⟨-, -, ⟨g5, g6⟩, ⟨g7, g8⟩, -, -, -⟩, hw, -⟩ := Ter.chk_zero h
      have h4 : 4 ≤ W * H := Int.mul_le_mul g5 g7 (by omega) (by omega)
      obtain ⟨b, off, rfl, hb, hc⟩ := hA (by omega)
      obtain ⟨m, rfl⟩ := Int.eq_ofNat_of_zero_le (show 0 ≤ W by omega)
      obtain ⟨q, rfl⟩ := Int.eq_ofNat_of_zero_le (show 0 ≤ H by omega)
      exact raised_yes x y S b off n c m q z d w hn hb hc h h'.1 h'.2
    · exact raised_no2 x y W H S A n c z d w hn hA h
  · exact raised_no1 x y W H S A n c d w hn
end Go.Proofs.Ythgdmcjahldihaa
