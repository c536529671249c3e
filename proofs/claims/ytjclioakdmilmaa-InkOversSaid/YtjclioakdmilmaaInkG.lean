/- The contract of the reference's Check. -/
import Derived.Test.YtjclioakdmilmaaInkF
namespace Go.Proofs.Ytjclioakdmilmaa
open Go.RowKit
open Num Ink
set_option linter.unusedVariables false
theorem Try.infoInt : (Try.prog.info? 3).map (fun i => (i.zero, i.size, i.bytes)) = some (some (.int .i64 0), 1, 8) := by kernel_rfl
/-- the numbers of an operation that must be near -/
def nums (x0 y0 x1 y1 : Int) (l : List (Int × Int)) : List Int := [x0, y0, x1, y1] ++ l.flatMap fun p => [p.1, p.2]
theorem nums_len (x0 y0 x1 y1 : Int) (l : List (Int × Int)) : (nums x0 y0 x1 y1 l).length = 4 + 2 * l.length := by
  have h : (l.flatMap fun p => [p.1, p.2]).length = 2 * l.length := by
    induction l with
    | nil => rfl
    | cons p l ih => simp at ih ⊢; omega
  unfold nums; rw [List.length_append, h]; rfl
theorem nums_step (x0 y0 x1 y1 : Int) (l : List (Int × Int)) (k : Nat) (h : k < l.length) : nums x0 y0 x1 y1 (l.take (k + 1)) = nums x0 y0 x1 y1 (l.take k) ++ [l[k].1, l[k].2] := by
  unfold nums; rw [List.take_succ_eq_append_getElem h, List.flatMap_append, ← List.append_assoc]; rfl
theorem nums_nr (x0 y0 x1 y1 : Int) (l : List (Int × Int)) : nrL (nums x0 y0 x1 y1 l) = ((nr x0 y0 && nr x1 y1) && l.all fun p => nr p.1 p.2) := by
  have h : (l.flatMap fun p => [p.1, p.2]).all (fun x => decide (-4096 ≤ x) && decide (x ≤ 4096)) = l.all fun p => nr p.1 p.2 := by
    induction l with
    | nil => rfl
    | cons p l ih => rw [List.flatMap_cons, List.all_append, ih, List.all_cons]; congr 1; simp [nr, Bool.and_assoc]
  unfold nums nrL; rw [List.all_append, h]; congr 1; simp [nr, Bool.and_assoc]
def NRel (w1 : World) (l : List Int) (v : Value) (wr : World) : Prop := ∃ a cap, v = .slice a l.length cap ∧ wr.ownsRow w1.heap.size 3 1 (.slice a l.length cap) l.length (l.map (Value.int .i64)) ∧ Below w1.heap.size w1 wr
theorem NRel.push {w1 w2 u : World} {l : List Int} {a : Option Addr} {cap : Nat} {v' : Value} {x y : Int} (hown : w2.ownsRow w1.heap.size 3 1 (.slice a l.length cap) l.length (l.map (Value.int .i64))) (hb : Below w1.heap.size w1 w2)
    (hg : w2.grownBy u (Value.ownBlock (.slice a l.length cap))) (ho : u.ownsRow w1.heap.size 3 1 v' (l.length + 2) (l.map (Value.int .i64) ++ [.int .i64 x, .int .i64 y])) : NRel w1 (l ++ [x, y]) v' u := by
  have e : l.map (Value.int .i64) ++ [.int .i64 x, .int .i64 y] = (l ++ [x, y]).map (Value.int .i64) := by simp
  rw [e] at ho
  obtain ⟨a', cap', rfl⟩ := own_slice ho
  refine ⟨a', cap', by simp, by simpa using ho, ?_⟩
  exact Below.grown hb hg hb.size fun j hj => (hown.lt j hj).1
theorem NRel.lit (v2 : World) (x0 y0 x1 y1 : Int) : NRel v2 [x0, y0, x1, y1] (.slice (some ⟨v2.heap.size, 0, none⟩) 4 4) (v2.alloc (.cells #[.int .i64 x0, .int .i64 y0, .int .i64 x1, .int .i64 y1] 3)) :=
  ⟨_, 4, rfl, World.ownsRow_lit v2 #[.int .i64 x0, .int .i64 y0, .int .i64 x1, .int .i64 y1] 4 (Nat.le_refl _) (by decide) rfl, below_al _ _⟩
theorem own_ns {w : World} {base : Nat} {a : Option Addr} {cap : Nat} {l : List Int} (h : w.ownsRow base 3 1 (.slice a l.length cap) l.length (l.map (Value.int .i64))) : Ns w w.heap.size a l := fun hn => by
  obtain ⟨g, c, e, hb, hg⟩ := own_some h hn
  simp at e
  obtain ⟨rfl, rfl⟩ := e
  refine ⟨g, 0, rfl, hg, fun j hj => ?_⟩
  have := h.cellAt j (by omega)
  rw [Nat.zero_add, this, List.getElem?_map, List.getElem?_eq_getElem hj]; rfl
set_option maxRecDepth 100000 in
set_option maxHeartbeats 8000000 in
theorem rcheck_any (k x0 y0 x1 y1 : Int) (l : List (Int × Int)) (p : Option Addr) (cap : Nat) (a b c d : Int) (w : World) (hki : -9223372036854775808 ≤ k ∧ k ≤ 9223372036854775807) (hp : Pts w w.heap.size p l) :
    Calls Try.prog 10 #[dw k x0 y0 x1 y1 (.slice p l.length cap) a b c d] w fun e w' => e = .returned (.int .i64 (ckE k x0 y0 x1 y1 l a b c d)) ∧ Below w.heap.size w w' := by
  have HP := Lib.hid hp
  have D0 := Lib.hid (Dw.new w k x0 y0 x1 y1 (.slice p l.length cap) a b c d 27)
  have G0 := Lib.hid (below_al w (.cells #[.int .i64 k, .int .i64 x0, .int .i64 y0, .int .i64 x1, .int .i64 y1, .slice p l.length cap, .int .i64 a, .int .i64 b, .int .i64 c, .int .i64 d] 27))
  have NB := Lib.hid (fun v => rbare_any k x0 y0 x1 y1 p l.length cap a b c d v hki)
  have HE : Hid (ckE k x0 y0 x1 y1 l a b c d = if k < 1 ∨ 3 < k then 9 else if bareB k (z4 x0 y0 x1 y1) l.length (z4 a b c d) = false then 1 else if 4096 < l.length then 3 else if ok4 a b c d = false then 2 else if nrL (nums x0 y0 x1 y1 l) = false then 2 else 0) := Lib.hid (by rw [nums_nr]; rfl)
  generalize ckE k x0 y0 x1 y1 l a b c d = R at *
  generalize bareB k (z4 x0 y0 x1 y1) l.length (z4 a b c d) = bb at *
  clear hp hki
  unfold dw at *
  go_enter Try.func10, Try.ntmps10
  go_upto_region 1 with fail
  generalize w.alloc (.cells #[.int .i64 k, .int .i64 x0, .int .i64 y0, .int .i64 x1, .int .i64 y1, .slice p l.length cap, .int .i64 a, .int .i64 b, .int .i64 c, .int .i64 d] 27) = v1 at *
  obtain ⟨h0, h1, h2, h3, h4, h5, h6, h7, h8, h9⟩ := D0.out
  by_cases hk1 : k < 1
  · have hR := HE.out.trans (if_pos (.inl hk1))
    have d1 : decide (k < 1) = true := by simpa using hk1
    clear HE hk1 h1 h2 h3 h4 h5 h6 h7 h8 h9 D0
    subst hR
    go_wp2
    go_ret
    exact ⟨rfl, G0.out⟩
  by_cases hk3 : 3 < k
  · have hR := HE.out.trans (if_pos (.inr hk3))
    have d1 : decide (k < 1) = false := by simpa using hk1
    have d2 : decide (3 < k) = true := by simpa using hk3
    clear HE hk1 hk3 h1 h2 h3 h4 h5 h6 h7 h8 h9 D0
    subst hR
    go_wp2
    go_ret
    exact ⟨rfl, G0.out⟩
  have d1 : decide (k < 1) = false := by simpa using hk1
  have d2 : decide (3 < k) = false := by simpa using hk3
  have HE2 := Lib.hid (HE.out.trans (if_neg (by omega)))
  clear HE hk1 hk3
  go_wp2_with fail
  refine (NB.out _).mono ?_
  rintro e w2 ⟨rfl, hb2⟩
  have D2 := Lib.hid (D0.out.later hb2)
  have G2 := Lib.hid (below_on G0.out hb2)
  clear hb2 D0 G0 NB d1 d2 h0 h1 h2 h3 h4 h5 h6 h7 h8 h9
  cases bb
  · have hR := HE2.out.trans (if_pos rfl)
    clear HE2 D2
    subst hR
    go_wp2
    go_ret
    exact ⟨rfl, G2.out⟩
  have HE3 := Lib.hid (HE2.out.trans (if_neg (by simp)))
  clear HE2
  obtain ⟨h0, h1, h2, h3, h4, h5, h6, h7, h8, h9⟩ := D2.out
  by_cases hl4 : 4096 < l.length
  · have hR := HE3.out.trans (if_pos hl4)
    have d1 : decide ((4096 : Int) < (l.length : Int)) = true := by simp; omega
    subst hR
    clear HE3 hl4 D2 h0 h1 h2 h3 h4 h6 h7 h8 h9
    go_wp2
    go_ret
    exact ⟨rfl, G2.out⟩
  have d1 : decide ((4096 : Int) < (l.length : Int)) = false := by simp; omega
  have HE4 := Lib.hid (HE3.out.trans (if_neg hl4))
  have HL := Lib.hid hl4
  clear HE3 hl4
  go_wp2_with fail
  go_loopw [3] (fun i wr => ∃ j : Nat, j ≤ 4 ∧ i = .int .i64 j ∧ wr = w2 ∧ Hid ((0 < j → okI a = true) ∧ (1 < j → okI b = true) ∧ (2 < j → okI c = true) ∧ (3 < j → okI d = true))) (fun i _ => 4 - (intOf i).toNat)
  case atStart => exact ⟨0, by omega, rfl, rfl, Lib.hid ⟨by omega, by omega, by omega, by omega⟩⟩
  case round =>
    obtain ⟨j, hj, rfl, rfl, HJ⟩ := hrel
    obtain rfl | rfl | rfl | rfl | rfl : j = 0 ∨ j = 1 ∨ j = 2 ∨ j = 3 ∨ j = 4 := by omega
    · by_cases hx : a < 0
      · have hR := HE4.out.trans (if_pos (show ok4 a b c d = false by have h : okI a = false := by { unfold okI; simp; omega }; unfold ok4; rw [h]; simp))
        subst hR
        have d2 : decide (a < 0) = true := by simpa using hx
        clear HE4 hx
        go_wp2
        go_ret
        exact ⟨rfl, G2.out⟩
      · have d2 : decide (a < 0) = false := by simpa using hx
        by_cases hy : 100 < a
        · have hR := HE4.out.trans (if_pos (show ok4 a b c d = false by have h : okI a = false := by { unfold okI; simp; omega }; unfold ok4; rw [h]; simp))
          subst hR
          have d3 : decide (100 < a) = true := by simpa using hy
          clear HE4 hx hy
          go_wp2
          go_ret
          exact ⟨rfl, G2.out⟩
        · have d3 : decide (100 < a) = false := by simpa using hy
          have hok : okI a = true := by unfold okI; simp; omega
          have HJ2 : Hid ((0 < 1 → okI a = true) ∧ (1 < 1 → okI b = true) ∧ (2 < 1 → okI c = true) ∧ (3 < 1 → okI d = true)) := Lib.hid (by have h := HJ.out; simp at h ⊢; simp [hok])
          clear HE4 hx hy hok HJ
          go_wp2
          go_roundw
          case rel => exact ⟨1, by omega, rfl, trivial, HJ2⟩
          case measure => simp [intOf] <;> omega
    · by_cases hx : b < 0
      · have hR := HE4.out.trans (if_pos (show ok4 a b c d = false by have h : okI b = false := by { unfold okI; simp; omega }; unfold ok4; rw [h]; simp))
        subst hR
        have d2 : decide (b < 0) = true := by simpa using hx
        clear HE4 hx
        go_wp2
        go_ret
        exact ⟨rfl, G2.out⟩
      · have d2 : decide (b < 0) = false := by simpa using hx
        by_cases hy : 100 < b
        · have hR := HE4.out.trans (if_pos (show ok4 a b c d = false by have h : okI b = false := by { unfold okI; simp; omega }; unfold ok4; rw [h]; simp))
          subst hR
          have d3 : decide (100 < b) = true := by simpa using hy
          clear HE4 hx hy
          go_wp2
          go_ret
          exact ⟨rfl, G2.out⟩
        · have d3 : decide (100 < b) = false := by simpa using hy
          have hok : okI b = true := by unfold okI; simp; omega
          have HJ2 : Hid ((0 < 2 → okI a = true) ∧ (1 < 2 → okI b = true) ∧ (2 < 2 → okI c = true) ∧ (3 < 2 → okI d = true)) := Lib.hid (by have h := HJ.out; simp at h ⊢; simp [hok, h])
          clear HE4 hx hy hok HJ
          go_wp2
          go_roundw
          case rel => exact ⟨2, by omega, rfl, trivial, HJ2⟩
          case measure => simp [intOf] <;> omega
    · by_cases hx : c < 0
      · have hR := HE4.out.trans (if_pos (show ok4 a b c d = false by have h : okI c = false := by { unfold okI; simp; omega }; unfold ok4; rw [h]; simp))
        subst hR
        have d2 : decide (c < 0) = true := by simpa using hx
        clear HE4 hx
        go_wp2
        go_ret
        exact ⟨rfl, G2.out⟩
      · have d2 : decide (c < 0) = false := by simpa using hx
        by_cases hy : 100 < c
        · have hR := HE4.out.trans (if_pos (show ok4 a b c d = false by have h : okI c = false := by { unfold okI; simp; omega }; unfold ok4; rw [h]; simp))
          subst hR
          have d3 : decide (100 < c) = true := by simpa using hy
          clear HE4 hx hy
          go_wp2
          go_ret
          exact ⟨rfl, G2.out⟩
        · have d3 : decide (100 < c) = false := by simpa using hy
          have hok : okI c = true := by unfold okI; simp; omega
          have HJ2 : Hid ((0 < 3 → okI a = true) ∧ (1 < 3 → okI b = true) ∧ (2 < 3 → okI c = true) ∧ (3 < 3 → okI d = true)) := Lib.hid (by have h := HJ.out; simp at h ⊢; simp [hok, h])
          clear HE4 hx hy hok HJ
          go_wp2
          go_roundw
          case rel => exact ⟨3, by omega, rfl, trivial, HJ2⟩
          case measure => simp [intOf] <;> omega
    · by_cases hx : d < 0
      · have hR := HE4.out.trans (if_pos (show ok4 a b c d = false by have h : okI d = false := by { unfold okI; simp; omega }; unfold ok4; rw [h]; simp))
        subst hR
        have d2 : decide (d < 0) = true := by simpa using hx
        clear HE4 hx
        go_wp2
        go_ret
        exact ⟨rfl, G2.out⟩
      · have d2 : decide (d < 0) = false := by simpa using hx
        by_cases hy : 100 < d
        · have hR := HE4.out.trans (if_pos (show ok4 a b c d = false by have h : okI d = false := by { unfold okI; simp; omega }; unfold ok4; rw [h]; simp))
          subst hR
          have d3 : decide (100 < d) = true := by simpa using hy
          clear HE4 hx hy
          go_wp2
          go_ret
          exact ⟨rfl, G2.out⟩
        · have d3 : decide (100 < d) = false := by simpa using hy
          have hok : okI d = true := by unfold okI; simp; omega
          have HJ2 : Hid ((0 < 4 → okI a = true) ∧ (1 < 4 → okI b = true) ∧ (2 < 4 → okI c = true) ∧ (3 < 4 → okI d = true)) := Lib.hid (by have h := HJ.out; simp at h ⊢; simp [hok, h])
          clear HE4 hx hy hok HJ
          go_wp2
          go_roundw
          case rel => exact ⟨4, by omega, rfl, trivial, HJ2⟩
          case measure => simp [intOf] <;> omega
    · have hok : ok4 a b c d = true := by have h := HJ.out; simp at h; unfold ok4; simp [h]
      have HE5 := Lib.hid (HE4.out.trans (if_neg (by simp [hok])))
      clear HE4 HJ hok
      generalize wr = wa at *
      rw [show ((4 : Nat) : Int) = (4 : Int) from rfl]
      have NL := Lib.hid (NRel.lit wa x0 y0 x1 y1)
      go_upto_region 13 with fail
      have NL2 : Hid (NRel wa (nums x0 y0 x1 y1 (l.take 0)) (.slice (some ⟨wa.heap.size, 0, none⟩) 4 4) (wa.alloc (.cells #[.int .i64 x0, .int .i64 y0, .int .i64 x1, .int .i64 y1] 3))) := NL
      generalize wa.alloc (.cells #[.int .i64 x0, .int .i64 y0, .int .i64 x1, .int .i64 y1] 3) = v3 at *
      clear NL h0 h1 h2 h3 h4 h5 h6 h7 h8 h9
      obtain ⟨i0, hi, hz0, hz1, hz2⟩ := info_parts Try.infoInt
      generalize hsz : wa.heap.size = sz at *
      have HSZ := Lib.hid hsz
      clear hsz
      go_wp2_with fail
      go_loopw [5, 4] (fun i vv wr => ∃ k : Nat, k ≤ l.length ∧ i = .int .i64 k ∧ Hid (NRel wa (nums x0 y0 x1 y1 (l.take k)) vv wr)) (fun i _ _ => l.length - (intOf i).toNat)
      case atStart => exact ⟨0, by omega, rfl, NL2⟩
      case round =>
        obtain ⟨k, hk, rfl, HR⟩ := hrel
        by_cases hlt : k < l.length
        · have hstep := nums_step x0 y0 x1 y1 l k hlt
          have hlen := nums_len x0 y0 x1 y1 (l.take k)
          rw [List.length_take, Nat.min_eq_left hk] at hlen
          generalize hT : nums x0 y0 x1 y1 (l.take k) = T at *
          obtain ⟨a0, cap0, rfl, hown, hbl⟩ := HR.out
          obtain ⟨pb, off, rfl, hpb, hc⟩ := ((HP.out.later G2.out).later hbl) (by omega)
          have u1 : wr.cell? ⟨pb, off + k * 2, none⟩ = some (.int .i64 l[k].1) := (hc k hlt).1
          have u2 : wr.cell? ⟨pb, off + k * 2 + 1, none⟩ = some (.int .i64 l[k].2) := (hc k hlt).2
          obtain ⟨z0, z1, z2, z3, z4, x5, z6, z7, z8, z9⟩ := D2.out.later hbl
          have q1 : (0 : Int) ≤ (k : Int) := by omega
          have q2 : (k : Int) < (l.length : Int) := by omega
          have q3 : (l.length : Int) ≤ 4096 := by have := HL.out; omega
          have OW := Lib.hid hown
          have BL := Lib.hid hbl
          have HLEN := Lib.hid hlen
          have HST := Lib.hid hstep
          clear z0 z1 z2 z3 z4 z6 z7 z8 z9 hc hown hbl HR hlen hT hstep HE5 NL2
          generalize l[k].1 = X at *
          generalize l[k].2 = Y at *
          go_wp2_with fail
          refine region_freeL (P := Try.prog) [0] 13 13 75 29 (.cells #[.int .i64 0, .int .i64 0] 29) (by kernel_rfl) (by decide) (by kernel_rfl) (fun _ _ _ _ _ h => h) ?_ (by kernel_rfl) (by kernel_rfl) alloc_pt ?_
          · rfl
          apply Exists.intro
          refine ⟨?hqt, ?hft⟩
          case hqt =>
            intro X' hne
            haveI := hne
            simp only [List.take_succ_cons, List.take_zero]
            have L0 := fun m' : LaterX wr X' => m'.cell u1
            have L1 := fun m' : LaterX wr X' => m'.cell u2
            have L2 := fun m' : LaterX wr X' => m'.cell x5
            iterate 13 (go_big_quiet_want; go_big_quiet_op; go_big_quiet_on)
            exact wpQuiet_nil rfl
          intro G w8 hb _ _
          simp only [List.take_succ_cons, List.take_zero, List.drop_succ_cons, List.drop_zero, ptrs, putsL]
          have OW2 := Lib.hid (own_on OW.out hb)
          have BL2 := Lib.hid (below_on BL.out hb)
          clear u1 u2 x5 OW BL hb
          go_wp2_with (at_builtin; refine wpList_append_own _ rfl _ _ 38 rfl sz 3 i0 (.int .i64 0) 1 8 Try.underlying38 hi hz0 hz1 hz2 rfl (by decide) _ _ _ rfl ((HSZ.out ▸ OW2.out).alloc _) ⟨w8.heap.size, 0, none⟩ 2 2 [.int .i64 X, .int .i64 Y] rfl rfl ?t1 ?t2 ?t3 ?t4 ?t5 ?_)
          case t1 =>
            intro j u hj
            match j, hj with
            | 0, hj => simp at hj; subst hj; simp [Addr.add]
            | 1, hj => simp at hj; subst hj; simp [Addr.add]
          case t2 => intro u hu; simp at hu; rcases hu with rfl | rfl <;> rfl
          case t3 => have := HLEN.out; unfold maxLen; omega
          case t4 => have := HLEN.out; omega
          case t5 => have := BL2.out.size; have := HSZ.out; simp; omega
          intro v' w9 hown hgrow _
          have hB6 := below_al w8 (.cells #[.int .i64 X, .int .i64 Y] 3)
          have HR2 := Lib.hid (NRel.push (x := X) (y := Y) (own_on OW2.out hB6) (below_on BL2.out hB6) hgrow (HSZ.out ▸ hown))
          rw [← HST.out] at HR2
          clear hB6 hgrow hown OW2 BL2 HLEN
          go_wp2
          go_roundw
          case rel => exact ⟨k + 1, by omega, by go_num, HR2⟩
          case measure => simp [intOf] <;> omega
        · have hkn : k = l.length := by omega
          subst hkn
          rw [List.take_length] at HR
          have hlen := nums_len x0 y0 x1 y1 l
          obtain ⟨a0, cap0, rfl, hown, hbl⟩ := HR.out
          have NN := Lib.hid (fun v hb => rnear_any (nums x0 y0 x1 y1 l) a0 cap0 v (by have := HL.out; omega) ((own_ns hown).later hb))
          have G4 := Lib.hid (below_on G2.out hbl)
          obtain ⟨z0, z1, z2, z3, z4, x5, z6, z7, z8, z9⟩ := D2.out.later hbl
          clear hown hbl HR D2 HP hlen NL2 z0 z1 z2 z3 z4 z6 z7 z8 z9
          generalize nums x0 y0 x1 y1 l = T at *
          go_wp2_with fail
          refine (NN.out _ (Below.refl _ _)).mono ?_
          rintro e w6 ⟨rfl, hb6⟩
          have G5 := Lib.hid (below_on G4.out hb6)
          clear hb6 G4 NN
          cases hT : nrL T
          · have hR := HE5.out.trans (if_pos hT)
            subst hR
            clear HE5 hT
            go_wp2
            go_ret
            exact ⟨rfl, G5.out⟩
          · have hR := HE5.out.trans (if_neg (by simp [hT]))
            subst hR
            clear HE5 hT
            go_wp2
            go_ret
            exact ⟨rfl, G5.out⟩
end Go.Proofs.Ytjclioakdmilmaa
