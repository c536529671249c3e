/- TerrainRises returns true: the walk. -/
import Derived.Test.YthgdmcjahldihaaRelG
import Derived.Test.YthgdmcjahldihaaRelL
import Derived.Test.YthgdmcjahldihaaTerL
import Derived.Test.YthgdmcjahldihaaTerPlainF
import Derived.StillTailTactics
import Derived.Deep.AppendLies
import Derived.Deep.RegionLaw
namespace Go.Proofs.Ythgdmcjahldihaa
open Go.RowKit
set_option linter.unusedVariables false

theorem pkAll_raise {x y W H S : Int} {n : Nat} {z : Nat → Int} {d : Int} (h : Ter.chk x y W H S n z = 0) (h2 : Ter.chk x y W H S n (fun j => z j + d) = 0) : pkAll x y W H S n (fun j => z j + d) = pkAll x y W H S n z := by
  unfold pkAll; rw [if_pos h, if_pos h2, Ter.pkL_raise]
theorem pkAll_len {x y W H S : Int} {n : Nat} {z : Nat → Int} (hn : n ≤ 4200) : (pkAll x y W H S n z).length ≤ 4200 := by
  unfold pkAll
  split
  · rename_i h
    obtain ⟨⟨-, -, ⟨g5, g6⟩, ⟨g7, g8⟩, -, -, -⟩, hw, -⟩ := Ter.chk_zero h
    have h1 := Ter.pkL_len z W.toNat H.toNat x y S (H.toNat * W.toNat)
    have h2 : H.toNat * W.toNat ≤ 64 * 64 := Nat.mul_le_mul (by omega) (by omega)
    omega
  · simp
theorem Ints.same {w : World} {B : Nat} {A : Option Addr} {n : Nat} {f g : Nat → Int} (h : Ints w B A n f) (hfg : ∀ j, j < n → f j = g j) : Ints w B A n g := fun hn => by
  obtain ⟨b, off, e, hB, hc⟩ := h hn
  exact ⟨b, off, e, hB, fun j hj => by rw [← hfg j hj]; exact hc j hj⟩
/-- the capacity of a grid's list -/
theorem GridAt.cap {P : Nat} {W0 wr : World} {x y Wd Ht S : Int} {a : Option Addr} {cap : Nat} {l : List Int} (h : GridAt P W0 wr x y Wd Ht S a cap l) : l.length ≤ cap ∧ cap ≤ maxLen := by
  rcases h.2.2.2 with ⟨hv, h0⟩ | ⟨g, cap', cur, hv, hb, hg, hcap, hm, hcs, htk⟩
  · simp at hv; obtain ⟨-, h1, h2⟩ := hv; rw [h1, h2]; exact ⟨by simp, by simp⟩
  · simp at hv; obtain ⟨-, h2⟩ := hv; subst h2; exact ⟨hcap, hm⟩

set_option maxRecDepth 100000 in
set_option maxHeartbeats 2000000 in
theorem rises_yes (x y W H S : Int) (A : Option Addr) (n c : Nat) (z : Nat → Int) (d px py : Int) (w : World) (hn : n ≤ 4200) (hcap : n ≤ c) (hcm : c ≤ maxLen) (hA : Ints w w.heap.size A n z) (d1 : -32768 ≤ d) (d2 : d ≤ 32767) :
    Calls Try.prog 11 #[hgt x y W H S A n c, .int .i16 d, .agg #[.int .i64 px, .int .i64 py]] w fun e w' => e = .returned (.bool true) ∧ Below w.heap.size w w' := by
  have HI := Lib.hid hA
  obtain ⟨i0, hi, hz0, hz1, hz2⟩ := info_parts Try.infoInt
  clear hA
  unfold hgt
  go_enter Try.func11, Try.ntmps11
  go_wp2_with fail
  refine (light_yes _ _ _ _ _ _ _ _ _ hn).mono ?_
  rintro e w2 ⟨rfl, hb1⟩
  have B2 := Lib.hid hb1
  have F2 := Lib.hid (below_step (below_step (below_box w _) (below_box _ _)) hb1)
  have hs2 : w.heap.size + 2 ≤ w2.heap.size := by have := hb1.size; simp at this; omega
  obtain ⟨hcl, hfz⟩ := bcell hb1
  clear hb1
  go_wp2_with fail
  go_loopw [8] (fun i wr => ∃ k : Nat, k ≤ n ∧ i = .int .i64 k ∧ GridRel w2.heap.size w2 x y W H S (fun j => IntKind.i64.wrap (z j + d)) k wr)
    (fun i _ => n - (intOf i).toNat)
  case atStart =>
    refine ⟨0, Nat.zero_le _, rfl, none, 0, [], rfl, fun j hj => absurd hj (by omega), ?_⟩
    exact ⟨below_box _ _, heap_alloc_new _ _, World.ownsRow_nil _ _ _ _⟩
  case round =>
    clear hcl hfz
    obtain ⟨k, hk, rfl, a, cap, l, hl, hj, GR⟩ := hrel
    have HL := Lib.hid hl
    have HJ := Lib.hid hj
    have HG := Lib.hid GR
    have hlen : l.length ≤ 4200 := by omega
    have hgs := GR.size
    obtain ⟨gc0, gc1, gc2, gc3, gc4, gc5⟩ := GR.cells
    have gf5 := GR.free 5
    have bx : wr.cell? ⟨w.heap.size, 5, none⟩ = some (.slice A n c) := by
      rw [GR.1.cell (p := ⟨w.heap.size, 5, none⟩) (by show w.heap.size < _; omega), (bcell B2.out).1 _ _ (by simp; omega), World.cell?_alloc_past _ _ _ (by simp)]; simp
    clear hl hj GR
    by_cases hlt : k < n
    · obtain ⟨b, off, rfl, hb, hA⟩ := HI.out (by omega)
      have hc : wr.cell? ⟨b, off + k, none⟩ = some (.int .i64 (z k)) := by
        rw [HG.out.1.cell (p := ⟨b, off + k, none⟩) (by show b < _; omega)]; exact cell_in F2.out (hA k hlt) hb
      clear hA
      have hd9 : IntKind.i64.wrap d = d := IntWalk.i64_in _ (by omega)
      obtain ⟨zw, hzw⟩ : ∃ zw, IntKind.i64.wrap (z k + d) = zw := ⟨_, rfl⟩
      have HZW := Lib.hid hzw
      go_wp2_with fail
      have hnn : (0 : Int) ≤ (k : Int) := by omega
      have hkn : (k : Int) < (n : Int) := by omega
      have gd5 : (wr.alloc (.cells #[.int .i64 zw] 3)).cell? ⟨w2.heap.size, 5, none⟩ = some (.slice a l.length cap) := by rw [World.cell?_alloc_past _ _ _ (by show w2.heap.size < _; omega)]; exact gc5
      go_region_law ((refine step_append_lies _ (by rfl) _ _ _ (by rfl) (w2.heap.size + 1) 3 i0 _ 1 8 Try.underlying24 hi hz0 hz1 hz2 rfl (by omega) (.slice a l.length cap) l.length (l.map (Value.int .i64)) (by rfl) ((HG.out.2.2.alloc _).drew) ⟨wr.heap.size, 0, none⟩ 1 1 [.int .i64 zw] (by rfl) (by rfl) (World.news_of_block (cs := #[.int .i64 zw]) (t := 3) (fr := (0, 0)) (heap_alloc_new wr _)) (by simp [Value.oneCell']) (by omega) (by unfold maxLen; omega) (by omega) (by simp; omega) (wr.heap.size + 1) (by simp) ?_; intro g' cap' w4 hown hgrow hat hlt4; obtain ⟨hfz4, hc4⟩ := HG.out.appendFree ⟨hgrow.os, hgrow.tape, hgrow.output, hgrow.size, hgrow.block⟩))
      all_goals
        clear hzw hd9
        obtain ⟨a', cap'', hv, G3, -⟩ := HG.out.append hown ⟨hgrow.os, hgrow.tape, hgrow.output, hgrow.size, hgrow.block⟩
        have HR2 := Lib.hid (GridRel.snoc (f := fun j => IntKind.i64.wrap (z j + d)) HL.out HJ.out HZW.out G3)
        clear hv G3 hown hgrow gc0 gc1 gc2 gc3 gc4 gc5 gf5 gd5 bx hc HL HJ hgs hfz4 hc4 HG hat hlt4
        go_wp2
        go_roundw
        case rel => exact ⟨k + 1, by omega, by go_num, HR2.out⟩
        case measure => simp [intOf]; omega
    · have HK := Lib.hid (show l.length = n by have := HL.out; omega)
      have HX2 := Lib.hid (HG.out.ints (fun j => IntKind.i64.wrap (z j + d)) (fun j hjl => HJ.out j (by have := HL.out; omega)))
      have F3 := Lib.hid (F2.out.trans (HG.out.1.mono (by omega)))
      have A3 := Lib.hid (HI.out.later F3.out)
      have B3 := Lib.hid (B2.out.trans (HG.out.1.mono (by simp; omega)))
      clear gc0 gc1 gc2 gc3 gc4 gc5 gf5 HJ
      obtain ⟨hcl, hfz⟩ := bcell B3.out
      go_wp2_with fail
      refine (tcheck_any x y W H S A n c z wr hn A3.out).mono ?_
      rintro e w5 ⟨rfl, hb5⟩
      have G5 := Lib.hid (HG.out.later hb5)
      have F5 := Lib.hid (below_step F3.out hb5)
      have A5 := Lib.hid (A3.out.later hb5)
      have B5 := Lib.hid (below_step B3.out hb5)
      have X5 := Lib.hid (HX2.out.later hb5)
      clear hcl hfz bx hb5 hgs HG A3 B3 F3 HX2
      by_cases hck : Ter.chk x y W H S n z = 0
      · have HC := Lib.hid hck
        rw [hck]
        have HZ := Lib.hid (Ter.chk_zero hck).2.2
        have X5' : Hid (Ints w5 w5.heap.size a n (fun j => z j + d)) := Lib.hid (by
          have := X5.out; rw [HK.out] at this
          exact this.same fun j hj => by have := HZ.out j hj; exact IntWalk.i64_in _ (by omega))
        clear hck X5
        obtain ⟨gc0, gc1, gc2, gc3, gc4, gc5⟩ := G5.out.cells
        rw [HK.out] at gc5
        have HCP : Hid (n ≤ cap ∧ cap ≤ maxLen) := Lib.hid (by have := G5.out.cap; rw [HK.out] at this; exact this)
        go_wp2_with fail
        refine (tcheck_any x y W H S a n cap (fun j => z j + d) w5 hn X5'.out).mono ?_
        rintro e w6 ⟨rfl, hb6⟩
        have G6 := Lib.hid (G5.out.later hb6)
        have F6 := Lib.hid (below_step F5.out hb6)
        have A6 := Lib.hid (A5.out.later hb6)
        have B6 := Lib.hid (below_step B5.out hb6)
        have X6 := Lib.hid (X5'.out.later hb6)
        clear gc0 gc1 gc2 gc3 gc4 gc5 hb6 G5 A5 B5 F5 X5'
        by_cases hck : Ter.chk x y W H S n (fun j => z j + d) = 0
        · have HC2 := Lib.hid hck
          rw [hck]
          clear hck
          obtain ⟨R1, R2, R3⟩ := Ter.hg_raise (px := px) (py := py) HC.out HC2.out d1 d2
          have HR1 := Lib.hid R1
          have HR2 := Lib.hid R2
          have HR3 := Lib.hid R3
          obtain ⟨⟨n1, n2⟩, n3, n4⟩ := Ter.hg_small (px := px) (py := py) HC.out
          have HP := Lib.hid (pkAll_raise HC.out HC2.out)
          have hpl := pkAll_len (x := x) (y := y) (W := W) (H := H) (S := S) (n := n) (z := z) hn
          clear R1 R2 R3
          have T1 := Lib.hid (fun v => Height_any x y W H S px py A n c z v hn hcap hcm)
          have T2 := Lib.hid (fun v => Height_any x y W H S px py a n cap (fun j => z j + d) v hn HCP.out.1 HCP.out.2)
          have T3 := Lib.hid (fun v => Peaks_any x y W H S A n c z v hn hcap hcm)
          have T4 := Lib.hid (fun v => Peaks_any x y W H S a n cap (fun j => z j + d) v hn HCP.out.1 HCP.out.2)
          rw [HR1.out, HR2.out, HR3.out] at T2
          rw [HP.out, HC2.out] at T4
          rw [HC.out] at T3
          generalize Ter.hgE x y W H S n z px py = vE at *
          generalize Ter.hgN x y W H S n z px py = vN at *
          generalize Ter.hgD x y W H S n z px py = vD at *
          generalize pkAll x y W H S n z = L at *
          clear HR1 HR2 HR3 HP
          unfold hgt at T1 T2 T3 T4
          have hs6 : w.heap.size < w6.heap.size := by have := F6.out.size; have := B6.out.size; simp at this; omega
          obtain ⟨hcl, hfz⟩ := bcell B6.out
          go_wp2_with fail
          refine (T1.out _ A6.out).mono ?_
          rintro e w7 ⟨rfl, hb7⟩
          have hG7 := G6.out.later hb7
          have A7 := Lib.hid ((A6.out.later hb7).later (below_box _ (.cells #[.int .i64 vN, .int .i64 vD] 44)))
          have X7 := Lib.hid ((X6.out.later hb7).later (below_box _ (.cells #[.int .i64 vN, .int .i64 vD] 44)))
          have F7 := Lib.hid (below_step F6.out hb7)
          have B7 := Lib.hid (below_step B6.out hb7)
          have hs7 : w.heap.size < w7.heap.size := by have := hb7.size; omega
          have hs7' : w.heap.size + 1 < w7.heap.size := by have := B7.out.size; simp at this; omega
          have hs72 : w2.heap.size < w7.heap.size := by have := hG7.size; omega
          obtain ⟨gc0, gc1, gc2, gc3, gc4, gc5⟩ := hG7.cells
          rw [HK.out] at gc5
          have G7 := Lib.hid hG7
          clear hG7 hb7 hcl hfz A6 X6 F6 B6 G6
          obtain ⟨hcl, hfz⟩ := bcell B7.out
          go_wp2_with fail
          refine (T2.out _ X7.out).mono ?_
          rintro e w8 ⟨rfl, hb8⟩
          have K8 := Lib.hid hb8
          have hG8 := G7.out.later (below_step (below_box _ (.cells #[.int .i64 vN, .int .i64 vD] 44)) hb8)
          have A8 := Lib.hid ((A7.out.later hb8).later (below_box _ (.cells #[.int .i64 (vN + d * vD), .int .i64 vD] 44)))
          have X8 := Lib.hid ((X7.out.later hb8).later (below_box _ (.cells #[.int .i64 (vN + d * vD), .int .i64 vD] 44)))
          have F8 := Lib.hid (below_step (below_step F7.out (below_box _ (.cells #[.int .i64 vN, .int .i64 vD] 44))) hb8)
          have B8 := Lib.hid (below_step (below_step B7.out (below_box _ (.cells #[.int .i64 vN, .int .i64 vD] 44))) hb8)
          have hs78 : w7.heap.size < w8.heap.size := by have := hb8.size; simp at this; omega
          have hs8 : w.heap.size < w8.heap.size := by omega
          have G8 := Lib.hid (hG8.later (below_box _ (.cells #[.int .i64 (vN + d * vD), .int .i64 vD] 44)))
          clear hG8 hb8 hcl hfz gc0 gc1 gc2 gc3 gc4 gc5 A7 X7 F7 B7 G7
          obtain ⟨hcl, hfz⟩ := bcell B8.out
          go_wp2_with fail
          refine (T3.out _ A8.out).mono ?_
          rintro e w9 ⟨a1, ca1, rfl, hp9, hb9⟩
          have K9 := Lib.hid hb9
          have P9 := Lib.hid hp9
          have hG9 := G8.out.later hb9
          have X9 := Lib.hid (X8.out.later hb9)
          have F9 := Lib.hid (below_step (below_step F8.out (below_box _ (.cells #[.int .i64 (vN + d * vD), .int .i64 vD] 44))) hb9)
          obtain ⟨gc0, gc1, gc2, gc3, gc4, gc5⟩ := hG9.cells
          rw [HK.out] at gc5
          clear hG9 hb9 hp9 hcl hfz A8 X8 F8 B8 G8
          go_wp2_with fail
          refine (T4.out _ X9.out).mono ?_
          rintro e w10 ⟨a2, ca2, rfl, hp10, hb10⟩
          have K10 := Lib.hid (below_step K9.out hb10)
          have P10 := Lib.hid (P9.out.later hb10)
          have Q10 := Lib.hid hp10
          have F10 := Lib.hid (below_step F9.out hb10)
          clear hb10 hp10 gc0 gc1 gc2 gc3 gc4 gc5 P9 K9 F9 X9
          go_wp2_with fail
          refine (awake43 _).mono ?_
          rintro e w11 ⟨rfl, hb11⟩
          have K11 := Lib.hid (below_step K10.out hb11)
          have KA := Lib.hid (below_step (below_step K8.out (below_box _ (.cells #[.int .i64 (vN + d * vD), .int .i64 vD] 44))) K11.out)
          have P11 := Lib.hid (P10.out.later hb11)
          have Q11 := Lib.hid (Q10.out.later hb11)
          have F11 := Lib.hid (below_step F10.out hb11)
          have y0 : w11.cell? ⟨w7.heap.size, 0, none⟩ = some (.int .i64 vN) := by rw [(bcell KA.out).1 _ _ (by simp)]; simp
          have y1 : w11.cell? ⟨w7.heap.size, 1, none⟩ = some (.int .i64 vD) := by rw [(bcell KA.out).1 _ _ (by simp)]; simp
          have y2 : w11.cell? ⟨w8.heap.size, 0, none⟩ = some (.int .i64 (vN + d * vD)) := by rw [(bcell K11.out).1 _ _ (by simp)]; simp
          have y3 : w11.cell? ⟨w8.heap.size, 1, none⟩ = some (.int .i64 vD) := by rw [(bcell K11.out).1 _ _ (by simp)]; simp
          clear hb11 K8 K10 K11 KA P10 Q10 F10
          have m1 : -34359738368 ≤ d * vD := by
            have a := Int.mul_le_mul_of_nonneg_right d1 n3
            omega
          have m2 : d * vD ≤ 34359738368 := by
            have a := Int.mul_le_mul_of_nonneg_right d2 n3
            omega
          have HSM := Lib.hid (Same_pts L a1 a2 ca1 ca2 w11 hpl P11.out Q11.out)
          go_wp2_with fail
          refine HSM.out.mono ?_
          rintro e w12 ⟨rfl, hb12⟩
          have F12 := Lib.hid (below_step F11.out hb12)
          clear hb12 y0 y1 y2 y3
          go_wp2
          go_ret
          exact ⟨rfl, F12.out⟩
        · have hckb : (Ter.chk x y W H S n (fun j => z j + d) != 0) = true := by simpa using hck
          clear hck
          go_wp2_with fail
          refine (awake43 _).mono ?_
          rintro e w7 ⟨rfl, hb7⟩
          have F7 := Lib.hid (below_step F6.out hb7)
          clear hb7
          go_wp2
          go_ret
          exact ⟨rfl, F7.out⟩
      · have hckb : (Ter.chk x y W H S n z != 0) = true := by simpa using hck
        clear hck
        go_wp2_with fail
        refine (awake43 _).mono ?_
        rintro e w7 ⟨rfl, hb7⟩
        have F7 := Lib.hid (below_step F5.out hb7)
        clear hb7
        go_wp2
        go_ret
        exact ⟨rfl, F7.out⟩
set_option maxHeartbeats 1000000 in
theorem rises_no (x y W H S : Int) (A : Option Addr) (n c : Nat) (d px py : Int) (w : World) (hn : ¬ n ≤ 4200) :
    Calls Try.prog 11 #[hgt x y W H S A n c, .int .i16 d, .agg #[.int .i64 px, .int .i64 py]] w fun e w' => e = .returned (.bool true) ∧ Below w.heap.size w w' := by
  unfold hgt
  go_enter Try.func11, Try.ntmps11
  go_wp2_with fail
  refine (light_no _ _ _ _ _ _ _ _ _ hn).mono ?_
  rintro e w1 ⟨rfl, hb1⟩
  have F := Lib.hid (below_step (below_step (below_box w _) (below_box _ _)) hb1)
  clear hb1
  go_wp2_with fail
  refine (awake43 _).mono ?_
  rintro e w2 ⟨rfl, hb2⟩
  have F2 := Lib.hid (below_step F.out hb2)
  clear hb2
  go_wp2
  go_ret
  exact ⟨rfl, F2.out⟩
theorem rises_any (x y W H S : Int) (A : Option Addr) (n c : Nat) (z : Nat → Int) (d px py : Int) (w : World) (hcap : n ≤ c) (hcm : c ≤ maxLen) (hA : Ints w w.heap.size A n z) (hd : (Lit.int .i16 d).wf = true) (_ : (Lit.int .i64 px).wf = true) (_ : (Lit.int .i64 py).wf = true) :
    Calls Try.prog 11 #[hgt x y W H S A n c, .int .i16 d, .agg #[.int .i64 px, .int .i64 py]] w fun e w' => e = .returned (.bool true) ∧ Below w.heap.size w w' := by
  by_cases hn : n ≤ 4200
  · have h16 : -32768 ≤ d ∧ d ≤ 32767 := by
      simp only [Lit.wf, Bool.and_eq_true, decide_eq_true_eq] at hd
      have e1 : IntKind.i16.min = -32768 := by decide
      have e2 : IntKind.i16.max = 32767 := by decide
      rw [e1, e2] at hd; exact hd
    exact rises_yes x y W H S A n c z d px py w hn hcap hcm hA h16.1 h16.2
  · exact rises_no x y W H S A n c d px py w hn
end Go.Proofs.Ythgdmcjahldihaa
