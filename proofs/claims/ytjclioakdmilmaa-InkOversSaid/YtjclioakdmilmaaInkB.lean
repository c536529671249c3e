/- The contract of ink.Cells. (printed by mkcells.py) -/
import Derived.Test.YtjclioakdmilmaaInkA
import Derived.Deep.CutBlock
import Derived.Deep.DeepCutAuto
namespace Go.Proofs.Ytjclioakdmilmaa
open Go.RowKit
open Num Ink
set_option linter.unusedVariables false
/-- a number a between 0 and d along, times n, divided by d: at most n far from 0 -/
theorem rnd_bound {n k d M : Int} (hd : d ≠ 0) (hn : -M ≤ n ∧ n ≤ M) (hk : (0 ≤ k ∧ k ≤ d) ∨ (d ≤ k ∧ k ≤ 0)) : -M ≤ rnd (n * k) d ∧ rnd (n * k) d ≤ M := by
  unfold rnd
  have hM : 0 ≤ M := by omega
  rcases hk with hk | hk
  · have hd' : 0 < d := by omega
    obtain ⟨s1, s2⟩ := fl_spec_pos (2 * (n * k) + d) (b := 2 * d) (by omega)
    generalize fl (2 * (n * k) + d) (2 * d) = q at *
    have b1 : n * k ≤ M * d := Int.le_trans (Int.mul_le_mul_of_nonneg_right hn.2 hk.1) (Int.mul_le_mul_of_nonneg_left hk.2 hM)
    have b2 : -(M * d) ≤ n * k := by
      have h1 : (-M) * k ≤ n * k := Int.mul_le_mul_of_nonneg_right hn.1 hk.1
      have h2 : M * k ≤ M * d := Int.mul_le_mul_of_nonneg_left hk.2 hM
      have h3 : (-M) * k = -(M * k) := Int.neg_mul _ _
      omega
    have e : 2 * d * q = 2 * (d * q) := by rw [Int.mul_assoc]
    constructor
    · apply Int.le_of_lt_add_one
      have : d * (-M) < d * (q + 1) := by rw [Int.mul_add, Int.mul_one, Int.mul_neg, Int.mul_comm d M]; omega
      exact Int.lt_of_mul_lt_mul_left this (by omega)
    · apply Int.le_of_lt_add_one
      have : d * q < d * (M + 1) := by rw [Int.mul_add, Int.mul_one, Int.mul_comm d M]; omega
      exact Int.lt_of_mul_lt_mul_left this (by omega)
  · have hd' : d < 0 := by omega
    obtain ⟨s1, s2⟩ := fl_spec_neg (2 * (n * k) + d) (b := 2 * d) (by omega)
    generalize fl (2 * (n * k) + d) (2 * d) = q at *
    have b1 : n * k ≤ -(M * d) := by
      have h1 : n * k ≤ (-M) * k := Int.mul_le_mul_of_nonpos_right hn.1 hk.2
      have h2 : M * d ≤ M * k := Int.mul_le_mul_of_nonneg_left hk.1 hM
      have h3 : (-M) * k = -(M * k) := Int.neg_mul _ _
      omega
    have b2 : M * d ≤ n * k := by
      have h1 : M * k ≤ n * k := Int.mul_le_mul_of_nonpos_right hn.2 hk.2
      have h2 : M * d ≤ M * k := Int.mul_le_mul_of_nonneg_left hk.1 hM
      omega
    have e : 2 * d * q = 2 * (d * q) := by rw [Int.mul_assoc]
    constructor
    · apply Int.le_of_lt_add_one
      have : (-d) * (-M) < (-d) * (q + 1) := by rw [Int.mul_add, Int.mul_one, Int.neg_mul_neg, Int.neg_mul, Int.mul_comm d M]; omega
      exact Int.lt_of_mul_lt_mul_left this (by omega)
    · apply Int.le_of_lt_add_one
      have : (-d) * q < (-d) * (M + 1) := by rw [Int.mul_add, Int.mul_one, Int.neg_mul, Int.neg_mul, Int.mul_comm d M]; omega
      exact Int.lt_of_mul_lt_mul_left this (by omega)
theorem prod_in {a b : Int} (h1 : -4194304 ≤ a ∧ a ≤ 4194304) (h2 : -4194304 ≤ b ∧ b ≤ 4194304) : -17592186044416 ≤ a * b ∧ a * b ≤ 17592186044416 := by
  have e1 : (a * b).natAbs ≤ 4194304 * 4194304 := by
    rw [Int.natAbs_mul]; exact Nat.mul_le_mul (by omega) (by omega)
  omega
/-- a slice of these points is returned, in a world that has only grown -/
def PtsRet (l : List (Int × Int)) (w : World) (e : Ending) (w' : World) : Prop := ∃ a cap, e = .returned (.slice a l.length cap) ∧ (Pts w' w'.heap.size a l ∧ ∀ b o, a = some ⟨b, o, none⟩ → w.heap.size ≤ b) ∧ Below w.heap.size w w'
/-- the list so far, of the call's own -/
def CRel (w1 : World) (l : List (Int × Int)) (v : Value) (wr : World) : Prop := ∃ a cap, v = .slice a l.length cap ∧ wr.ownsRow w1.heap.size 29 2 (.slice a l.length cap) l.length (pcs l) ∧ Below w1.heap.size w1 wr
theorem CRel.push {w1 w2 u : World} {l : List (Int × Int)} {a : Option Addr} {cap : Nat} {v' : Value} {p : Int × Int} (hown : w2.ownsRow w1.heap.size 29 2 (.slice a l.length cap) l.length (pcs l)) (hb : Below w1.heap.size w1 w2)
    (hg : w2.grownBy u (Value.ownBlock (.slice a l.length cap))) (ho : u.ownsRow w1.heap.size 29 2 v' (l.length + 1) (pcs l ++ [.int .i64 p.1, .int .i64 p.2])) : CRel w1 (l ++ [p]) v' u := by
  rw [← pcs_snoc l p] at ho
  obtain ⟨a', cap', rfl⟩ := own_slice ho
  refine ⟨a', cap', by simp, by simpa using ho, ?_⟩
  exact Below.grown hb hg hb.size fun j hj => (hown.lt j hj).1
set_option maxRecDepth 100000 in
set_option maxHeartbeats 8000000 in
theorem Cells_any (ax ay bx by_ : Int) (w : World) :
    Calls Try.prog 12 #[.agg #[.int .i64 ax, .int .i64 ay], .agg #[.int .i64 bx, .int .i64 by_]] w (PtsRet (cels ax ay bx by_) w) := by
  have N1 := Lib.hid (near_any ax ay)
  have N2 := Lib.hid (near_any bx by_)
  have HI1 := Lib.hid (nr_iff ax ay)
  have HI2 := Lib.hid (nr_iff bx by_)
  have HF := Lib.hid (fun h => cels_far (ax := ax) (ay := ay) (bx := bx) (by_ := by_) h)
  have HN := Lib.hid (fun h h' => cels_near (ax := ax) (ay := ay) (bx := bx) (by_ := by_) h h')
  have HS := Lib.hid (fun h => cels_same (ax := ax) (ay := ay) h)
  generalize hc : cels ax ay bx by_ = C at *
  have k1 := Bx.new w ax ay 29
  have s1 : (w.alloc (.cells #[.int .i64 ax, .int .i64 ay] 29)).heap.size = w.heap.size + 1 := by simp
  have b1 := below_al w (.cells #[.int .i64 ax, .int .i64 ay] 29)
  go_enter Try.func12, Try.ntmps12
  go_upto_region 1 with fail
  generalize w.alloc (.cells #[.int .i64 ax, .int .i64 ay] 29) = v1 at *
  have k2 := Bx.new v1 bx by_ 29
  have b2 := below_al v1 (.cells #[.int .i64 bx, .int .i64 by_] 29)
  rw [s1] at k2
  have K1 := Lib.hid (k1.later b2)
  have K2 := Lib.hid k2
  have G := Lib.hid (below_on b1 b2)
  clear k1 k2 b1 b2 s1
  generalize v1.alloc (.cells #[.int .i64 bx, .int .i64 by_] 29) = v2 at *
  obtain ⟨c0, c1, -⟩ := K1.out
  go_wp2_with fail
  refine (N1.out _).mono ?_
  rintro e w1 ⟨rfl, hb⟩
  have K3 := Lib.hid (K1.out.later hb)
  have K4 := Lib.hid (K2.out.later hb)
  have G1 := Lib.hid (below_on G.out hb)
  clear hb K1 K2 G N1 c0 c1
  obtain ⟨c0, c1, -⟩ := K4.out
  cases n1 : nr ax ay
  · have hC : C = [] := HF.out (by simp [n1])
    clear HF HN HS hc N2 K3 K4 c0 c1
    subst hC
    go_wp2
    go_ret
    exact ⟨none, 0, rfl, ⟨fun h => absurd h (by simp), fun b o h => by cases h⟩, G1.out⟩
  go_wp2_with fail
  refine (N2.out _).mono ?_
  rintro e w2 ⟨rfl, hb⟩
  have K5 := Lib.hid (K3.out.later hb)
  have K6 := Lib.hid (K4.out.later hb)
  have G2 := Lib.hid (below_on G1.out hb)
  clear hb K3 K4 G1 N2 c0 c1
  cases n2 : nr bx by_
  · have hC : C = [] := HF.out (by simp [n2])
    clear HF HN HS hc K5 K6
    subst hC
    go_wp2
    go_ret
    exact ⟨none, 0, rfl, ⟨fun h => absurd h (by simp), fun b o h => by cases h⟩, G2.out⟩
  obtain ⟨r1, r2, r3, r4⟩ := HI1.out.1 n1
  obtain ⟨r5, r6, r7, r8⟩ := HI2.out.1 n2
  have hC := HN.out n1 n2
  clear HF HN HI1 HI2
  obtain ⟨c0, c1, -⟩ := K5.out
  obtain ⟨c2, c3, -⟩ := K6.out
  have L0 := fun m : Later w2 => m.cell c0
  have L1 := fun m : Later w2 => m.cell c1
  have L2 := fun m : Later w2 => m.cell c2
  have L3 := fun m : Later w2 => m.cell c3
  go_wp2_with fail
  refine region_later (by kernel_rfl) (by kernel_rfl) ?_
  iterate 12 (go_big_quiet_want; go_big_quiet_op; go_big_quiet_on)
  refine wpQuiet_nil ?_
  refine later_end ?_
  intro m
  have K7 := Lib.hid (K5.out.later m.below)
  have K8 := Lib.hid (K6.out.later m.below)
  have G3 := Lib.hid (below_on G2.out m.below)
  clear L0 L1 L2 L3 c0 c1 c2 c3 K5 K6 G2
  generalize m.wd = w3 at *
  clear m
  obtain ⟨c0, c1, y1⟩ := K7.out
  obtain ⟨c2, c3, y2⟩ := K8.out
  clear y1 y2
  go_upto_region 4 with fail
  obtain ⟨dx, hdx⟩ : ∃ dx, dx = bx - ax := ⟨_, rfl⟩
  obtain ⟨dy, hdy⟩ : ∃ dy, dy = by_ - ay := ⟨_, rfl⟩
  rw [← hdx, ← hdy]
  have HDX := Lib.hid hdx
  have HDY := Lib.hid hdy
  have g1 : -8192 ≤ dx := by omega
  have g2 : dx ≤ 8192 := by omega
  have g3 : -8192 ≤ dy := by omega
  have g4 : dy ≤ 8192 := by omega
  clear hdx hdy
  go_cut [7, 8] from 35 to 42 (fun x y wc => x = .int .i64 (max dx (-dx)) ∧ y = .int .i64 (max dy (-dy)) ∧ wc = w3)
  case first =>
    clear hC HS hc
    go_wp2_with fail
    all_goals
      go_meet
      refine ⟨?_, ?_, rfl⟩
      · congr 1; omega
      · congr 1; omega
  case rest =>
  obtain ⟨rfl, rfl, hwc⟩ := hcut
  have hwc := hwc.symm
  subst hwc
  by_cases hq : ax = bx ∧ ay = by_
  · obtain ⟨rfl, rfl⟩ := hq
    have hC2 : C = [(ax, ay)] := hc.symm.trans (HS.out n1)
    clear HS hc hC
    subst hC2
    have X := Lib.hid (lit_pts w3 [(ax, ay)] #[.int .i64 ax, .int .i64 ay] rfl)
    have F := Lib.hid G3.out.size
    have G4 := Lib.hid (below_on G3.out (below_al w3 (.cells #[.int .i64 ax, .int .i64 ay] 29)))
    go_wp2
    go_ret
    exact ⟨some ⟨w3.heap.size, 0, none⟩, 1, rfl, ⟨X.out, fun b o h => by injection h with h; injection h with h1 h2; have := F.out; omega⟩, G4.out⟩
  have hq' : ¬ ax = bx ∨ ¬ ay = by_ := by omega
  clear HS hc
  have hst : stp ax ay bx by_ = max (max dx (-dx)) (max dy (-dy)) := by rw [HDX.out, HDY.out]; rfl
  have hwd : wide ax ay bx by_ = decide (max dy (-dy) ≤ max dx (-dx)) := by rw [HDX.out, HDY.out]; rfl
  have hnz : ¬ (dx = 0 ∧ dy = 0) := by have := HDX.out; have := HDY.out; omega
  generalize hu : max dx (-dx) = u at *
  generalize hv : max dy (-dy) = v at *
  obtain ⟨n, hn⟩ : ∃ n : Nat, max u v = (n : Int) := ⟨(max u v).toNat, by omega⟩
  rw [hst, hn, Int.toNat_natCast] at hC
  have HCC := Lib.hid hC
  clear hC
  have hn0 : 0 < n := by omega
  have hn1 : n ≤ 8192 := by omega
  obtain ⟨i0, hi, hz0, hz1, hz2⟩ := info_parts Try.infoPt
  have SZ : Hid (w.heap.size + 1 < w3.heap.size) := Lib.hid (cell_lt c2)
  clear hq
  go_upto_region 5 with fail
  go_cut [45] from 43 to 45 (fun b wc => b = .bool false ∧ wc = w3)
  case first =>
    clear hst hwd hu hv hn hn0 hn1 HCC SZ hnz
    by_cases hqa : ax = bx
    · subst hqa
      have hqb : ¬ ay = by_ := by omega
      clear hq'
      go_wp2_with fail
      go_meet
      exact ⟨rfl, rfl⟩
    · clear hq'
      go_wp2_with fail
      go_meet
      exact ⟨rfl, rfl⟩
  case rest =>
  obtain ⟨rfl, hwc⟩ := hcut
  have hwc := hwc.symm
  subst hwc
  clear hq'
  by_cases hw : v ≤ u
  · have hwb : wide ax ay bx by_ = true := by rw [hwd]; simpa using hw
    have d1 : decide (v ≤ u) = true := by simpa using hw
    have hun : u = (n : Int) := by omega
    have hsg := sg_tdiv (d := dx) (n := n) (by omega) (by omega)
    have hs1 : sg dx = 1 ∨ sg dx = -1 := by unfold sg; split <;> simp
    have HP : Hid (∀ i : Nat, celP ax ay bx by_ i = (ax + i * sg dx, ay + rnd (dy * (i * sg dx)) dx)) := Lib.hid (fun i => by unfold celP; rw [hwb]; simp only [if_true]; rw [hst, hn, ← HDX.out, ← HDY.out, ← rnd_sg (e := dy) (d := dx) (n := n) (i := i) (by omega) (by omega)])
    have hdne : dx ≠ 0 := by omega
    have htd : dx.tdiv n = sg dx := hsg.1
    have hU0 : ¬ (n : Int) = 0 := by omega
    have hdn : dx = sg dx * n := hsg.2
    clear hwb hwd hst hsg
    have HU := Lib.hid hu
    have HV := Lib.hid hv
    have HN := Lib.hid hn
    clear hu hv hn
    subst hun
    generalize sg dx = s at *
    have HDN := Lib.hid hdn
    clear hdn
    go_wp2_with fail
    go_loopw [52, 4] (fun i vv wr => ∃ k : Nat, k ≤ n + 1 ∧ i = .int .i64 k ∧ Hid (CRel w3 (celK ax ay bx by_ k) vv wr)) (fun i _ _ => n + 1 - (intOf i).toNat)
    case atStart => exact ⟨0, by omega, rfl, Lib.hid ⟨none, 0, rfl, World.ownsRow_nil _ _ _ _, Below.refl _ _⟩⟩
    case round =>
      obtain ⟨k, hk, rfl, HR⟩ := hrel
      by_cases hlt : k < n + 1
      · have hstep : celK ax ay bx by_ (k + 1) = celK ax ay bx by_ k ++ [celP ax ay bx by_ k] := rfl
        rw [HP.out] at hstep
        have hkl := celK_len ax ay bx by_ k
        generalize celK ax ay bx by_ k = l at *
        have HST := Lib.hid hstep
        clear hstep
        obtain ⟨a0, cap0, rfl, hown, hbl⟩ := HR.out
        have OW := Lib.hid hown
        have BL := Lib.hid hbl
        have HKL := Lib.hid hkl
        clear hown hbl HR hkl HP HCC
        have e1 : (k : Int) * s = k ∨ (k : Int) * s = -k := by rcases hs1 with h | h <;> rw [h] <;> omega
        have e2 : s = 1 ∧ (k : Int) * s = k ∧ dx = n ∨ s = -1 ∧ (k : Int) * s = -k ∧ dx = -n := by rcases hs1 with h | h <;> have hdn := HDN.out <;> rw [h] at hdn ⊢ <;> omega
        have p1 := prod_in (a := dy) (b := (k : Int) * s) (by omega) (by omega)
        have RB := rnd_bound (n := dy) (k := (k : Int) * s) (d := dx) (M := 8192) (by omega) (by omega) (by omega)
        have hks : -8192 ≤ (k : Int) * s ∧ (k : Int) * s ≤ 8192 := by omega
        clear e1
        have E2 := Lib.hid e2
        clear e2
        go_wp2_with fail
        refine (round_ok (dy * ((k : Int) * s)) dx _ (by unfold I64; omega) (by unfold I64; omega) (by omega) (by omega)).mono ?_
        rintro e w2 ⟨rfl, rfl⟩
        generalize dy * ((k : Int) * s) = pr at *
        generalize rnd pr dx = q at *
        have B5 := Lib.hid (below_al wr (.cells #[.int .i64 0, .int .i64 0] 29))
        have k5 := Bx.new wr 0 0 29
        generalize wr.alloc (.cells #[.int .i64 0, .int .i64 0] 29) = w5 at *
        have K5 := Lib.hid k5
        obtain ⟨x0, x1, x2⟩ := k5
        have x20 := x2 0
        have x21 := x2 1
        clear x2
        obtain ⟨f0, f1, -⟩ := K7.out.later (below_on BL.out B5.out)
        go_upto_region 18 with fail
        have KX := Lib.hid (K5.out.same (ax + (k : Int) * s) (ay + q))
        have BS := Lib.hid ((B5.out.setCell (p := ⟨wr.heap.size, 0, none⟩) (Nat.le_refl _) (.int .i64 (ax + (k : Int) * s))).setCell (p := ⟨wr.heap.size, 1, none⟩) (Nat.le_refl _) (.int .i64 (ay + q)))
        clear x0 x1 x20 x21 f0 f1 K5 B5
        have OW2 := Lib.hid (own_on OW.out BS.out)
        have BL2 := Lib.hid (below_on BL.out BS.out)
        generalize (w5.setCell ⟨wr.heap.size, 0, none⟩ (.int .i64 (ax + (k : Int) * s))).setCell ⟨wr.heap.size, 1, none⟩ (.int .i64 (ay + q)) = w6 at *
        generalize hX : (ax + (k : Int) * s) = X at *
        generalize hY : (ay + q) = Y at *
        have HX := Lib.hid hX
        have HY := Lib.hid hY
        clear hX hY OW BL BS
        obtain ⟨x0, x1, -⟩ := KX.out
        go_wp2_with (at_builtin; refine wpList_append_own _ rfl _ _ 24 rfl w3.heap.size 29 i0 (.agg #[.int .i64 0, .int .i64 0]) 2 16 Try.underlying24 hi hz0 hz1 hz2 rfl (by decide) _ _ _ rfl (OW2.out.alloc _) ⟨w6.heap.size, 0, none⟩ 1 1 [.int .i64 X, .int .i64 Y] rfl rfl ?c1 ?c2 ?c3 ?c4 ?c5 ?_)
        case c1 =>
          intro j u hj
          match j, hj with
          | 0, hj => simp at hj; subst hj; simp [Addr.add]
          | 1, hj => simp at hj; subst hj; simp [Addr.add]
        case c2 => intro u hu; simp at hu; rcases hu with rfl | rfl <;> rfl
        case c3 => have := HKL.out; unfold maxLen; omega
        case c4 => have := HKL.out; omega
        case c5 => have := BL2.out.size; simp; omega
        intro v' w8 hown hgrow _
        have hB6 := below_al w6 (.cells #[.int .i64 X, .int .i64 Y] 29)
        have HR2 := Lib.hid (CRel.push (p := (X, Y)) (own_on OW2.out hB6) (below_on BL2.out hB6) hgrow hown)
        rw [← HST.out] at HR2
        clear hB6 hgrow hown OW2 BL2 x0 x1 KX HKL
        go_wp2
        go_roundw
        case rel => exact ⟨k + 1, by omega, by go_num, HR2⟩
        case measure => simp [intOf] <;> omega
      · have hkn : k = n + 1 := by omega
        subst hkn
        obtain ⟨a0, cap0, rfl, hown, hbl⟩ := HR.out
        have X := Lib.hid (own_pts hown)
        have F : Hid (∀ b o, a0 = some ⟨b, o, none⟩ → w.heap.size ≤ b) := Lib.hid (fun b o h => by subst h; have h1 := (hown.lt b rfl).1; have h2 := G3.out.size; omega)
        have G4 := Lib.hid (below_on G3.out hbl)
        have HCC2 := HCC.out
        rw [← HCC2] at X
        rw [← HCC2]
        clear hown hbl HR HCC HCC2
        go_wp2
        go_ret
        exact ⟨a0, cap0, rfl, ⟨X.out, F.out⟩, G4.out⟩
  · have hwb : wide ax ay bx by_ = false := by rw [hwd]; simpa using hw
    have d1 : decide (v ≤ u) = false := by simpa using hw
    have hun : v = (n : Int) := by omega
    have hsg := sg_tdiv (d := dy) (n := n) (by omega) (by omega)
    have hs1 : sg dy = 1 ∨ sg dy = -1 := by unfold sg; split <;> simp
    have HP : Hid (∀ i : Nat, celP ax ay bx by_ i = (ax + rnd (dx * (i * sg dy)) dy, ay + i * sg dy)) := Lib.hid (fun i => by unfold celP; rw [hwb]; simp only [Bool.false_eq_true, if_false]; rw [hst, hn, ← HDX.out, ← HDY.out, ← rnd_sg (e := dx) (d := dy) (n := n) (i := i) (by omega) (by omega)])
    have hdne : dy ≠ 0 := by omega
    have htd : dy.tdiv n = sg dy := hsg.1
    have hU0 : ¬ (n : Int) = 0 := by omega
    have hdn : dy = sg dy * n := hsg.2
    clear hwb hwd hst hsg
    have HU := Lib.hid hu
    have HV := Lib.hid hv
    have HN := Lib.hid hn
    clear hu hv hn
    subst hun
    generalize sg dy = s at *
    have HDN := Lib.hid hdn
    clear hdn
    go_wp2_with fail
    go_loopw [52, 4] (fun i vv wr => ∃ k : Nat, k ≤ n + 1 ∧ i = .int .i64 k ∧ Hid (CRel w3 (celK ax ay bx by_ k) vv wr)) (fun i _ _ => n + 1 - (intOf i).toNat)
    case atStart => exact ⟨0, by omega, rfl, Lib.hid ⟨none, 0, rfl, World.ownsRow_nil _ _ _ _, Below.refl _ _⟩⟩
    case round =>
      obtain ⟨k, hk, rfl, HR⟩ := hrel
      by_cases hlt : k < n + 1
      · have hstep : celK ax ay bx by_ (k + 1) = celK ax ay bx by_ k ++ [celP ax ay bx by_ k] := rfl
        rw [HP.out] at hstep
        have hkl := celK_len ax ay bx by_ k
        generalize celK ax ay bx by_ k = l at *
        have HST := Lib.hid hstep
        clear hstep
        obtain ⟨a0, cap0, rfl, hown, hbl⟩ := HR.out
        have OW := Lib.hid hown
        have BL := Lib.hid hbl
        have HKL := Lib.hid hkl
        clear hown hbl HR hkl HP HCC
        have e1 : (k : Int) * s = k ∨ (k : Int) * s = -k := by rcases hs1 with h | h <;> rw [h] <;> omega
        have e2 : s = 1 ∧ (k : Int) * s = k ∧ dy = n ∨ s = -1 ∧ (k : Int) * s = -k ∧ dy = -n := by rcases hs1 with h | h <;> have hdn := HDN.out <;> rw [h] at hdn ⊢ <;> omega
        have p1 := prod_in (a := dx) (b := (k : Int) * s) (by omega) (by omega)
        have RB := rnd_bound (n := dx) (k := (k : Int) * s) (d := dy) (M := 8192) (by omega) (by omega) (by omega)
        have hks : -8192 ≤ (k : Int) * s ∧ (k : Int) * s ≤ 8192 := by omega
        clear e1
        have E2 := Lib.hid e2
        clear e2
        go_wp2_with fail
        refine (round_ok (dx * ((k : Int) * s)) dy _ (by unfold I64; omega) (by unfold I64; omega) (by omega) (by omega)).mono ?_
        rintro e w2 ⟨rfl, rfl⟩
        generalize dx * ((k : Int) * s) = pr at *
        generalize rnd pr dy = q at *
        have B5 := Lib.hid (below_al wr (.cells #[.int .i64 0, .int .i64 0] 29))
        have k5 := Bx.new wr 0 0 29
        generalize wr.alloc (.cells #[.int .i64 0, .int .i64 0] 29) = w5 at *
        have K5 := Lib.hid k5
        obtain ⟨x0, x1, x2⟩ := k5
        have x20 := x2 0
        have x21 := x2 1
        clear x2
        obtain ⟨f0, f1, -⟩ := K7.out.later (below_on BL.out B5.out)
        go_upto_region 18 with fail
        have KX := Lib.hid (K5.out.same (ax + q) (ay + (k : Int) * s))
        have BS := Lib.hid ((B5.out.setCell (p := ⟨wr.heap.size, 0, none⟩) (Nat.le_refl _) (.int .i64 (ax + q))).setCell (p := ⟨wr.heap.size, 1, none⟩) (Nat.le_refl _) (.int .i64 (ay + (k : Int) * s)))
        clear x0 x1 x20 x21 f0 f1 K5 B5
        have OW2 := Lib.hid (own_on OW.out BS.out)
        have BL2 := Lib.hid (below_on BL.out BS.out)
        generalize (w5.setCell ⟨wr.heap.size, 0, none⟩ (.int .i64 (ax + q))).setCell ⟨wr.heap.size, 1, none⟩ (.int .i64 (ay + (k : Int) * s)) = w6 at *
        generalize hX : (ax + q) = X at *
        generalize hY : (ay + (k : Int) * s) = Y at *
        have HX := Lib.hid hX
        have HY := Lib.hid hY
        clear hX hY OW BL BS
        obtain ⟨x0, x1, -⟩ := KX.out
        go_wp2_with (at_builtin; refine wpList_append_own _ rfl _ _ 24 rfl w3.heap.size 29 i0 (.agg #[.int .i64 0, .int .i64 0]) 2 16 Try.underlying24 hi hz0 hz1 hz2 rfl (by decide) _ _ _ rfl (OW2.out.alloc _) ⟨w6.heap.size, 0, none⟩ 1 1 [.int .i64 X, .int .i64 Y] rfl rfl ?t1 ?t2 ?t3 ?t4 ?t5 ?_)
        case t1 =>
          intro j u hj
          match j, hj with
          | 0, hj => simp at hj; subst hj; simp [Addr.add]
          | 1, hj => simp at hj; subst hj; simp [Addr.add]
        case t2 => intro u hu; simp at hu; rcases hu with rfl | rfl <;> rfl
        case t3 => have := HKL.out; unfold maxLen; omega
        case t4 => have := HKL.out; omega
        case t5 => have := BL2.out.size; simp; omega
        intro v' w8 hown hgrow _
        have hB6 := below_al w6 (.cells #[.int .i64 X, .int .i64 Y] 29)
        have HR2 := Lib.hid (CRel.push (p := (X, Y)) (own_on OW2.out hB6) (below_on BL2.out hB6) hgrow hown)
        rw [← HST.out] at HR2
        clear hB6 hgrow hown OW2 BL2 x0 x1 KX HKL
        go_wp2
        go_roundw
        case rel => exact ⟨k + 1, by omega, by go_num, HR2⟩
        case measure => simp [intOf] <;> omega
      · have hkn : k = n + 1 := by omega
        subst hkn
        obtain ⟨a0, cap0, rfl, hown, hbl⟩ := HR.out
        have X := Lib.hid (own_pts hown)
        have F : Hid (∀ b o, a0 = some ⟨b, o, none⟩ → w.heap.size ≤ b) := Lib.hid (fun b o h => by subst h; have h1 := (hown.lt b rfl).1; have h2 := G3.out.size; omega)
        have G4 := Lib.hid (below_on G3.out hbl)
        have HCC2 := HCC.out
        rw [← HCC2] at X
        rw [← HCC2]
        clear hown hbl HR HCC HCC2
        go_wp2
        go_ret
        exact ⟨a0, cap0, rfl, ⟨X.out, F.out⟩, G4.out⟩
end Go.Proofs.Ytjclioakdmilmaa
