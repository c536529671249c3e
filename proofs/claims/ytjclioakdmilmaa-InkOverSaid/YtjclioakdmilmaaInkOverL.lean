/- InkOver: the walk. -/
import Derived.Test.YtjclioakdmilmaaInkS
namespace Go.Proofs.Ytjclioakdmilmaa
open Go.RowKit
open Num Ink
set_option linter.unusedVariables false
theorem errP_bd {ws hs : Nat → Int} {vs : Nat → List Int} (h : errP ws hs vs = 0) : (∀ i, i < 4 → (vs i).length ≤ 65536) ∧ (∀ i, i < 4 → I64 (ws i)) ∧ ∀ i, i < 4 → I64 (hs i) := by
  obtain ⟨g1, g2, g3⟩ := errP_ok h
  have hn : ∀ i, i < 4 → (vs i).length ≤ 65536 := fun i hi => by
    have := (g3 i hi).2.2.2.1
    exact n_le this.symm ⟨by omega, g1.2⟩ ⟨by omega, g2.2⟩
  exact ⟨hn, fun i hi => by rw [(g3 i hi).1]; unfold I64; omega, fun i hi => by rw [(g3 i hi).2.1]; unfold I64; omega⟩
set_option maxRecDepth 100000 in
set_option maxHeartbeats 16000000 in
theorem inkover_law (w h : Int) (A : List Dr) (da : Option Addr) (dac : Nat) (B : List Dr) (db : Option Addr) (dbc : Nat) (W : World)
    (hDa : Drs W W.heap.size da A) (hma : A.length ≤ maxLen) (hka : ∀ q ∈ A, q.l.length ≤ maxLen ∧ (-9223372036854775808 ≤ q.k ∧ q.k ≤ 9223372036854775807)) (hza : da = none → A.length = 0 ∧ dac = 0)
    (hDb : Drs W W.heap.size db B) (hmb : B.length ≤ maxLen) (hkb : ∀ q ∈ B, q.l.length ≤ maxLen ∧ (-9223372036854775808 ≤ q.k ∧ q.k ≤ 9223372036854775807)) (hzb : db = none → B.length = 0 ∧ dbc = 0) :
    Calls Try.prog 7 #[.int .i64 w, .int .i64 h, .slice da A.length dac, .slice db B.length dbc] W fun e u => e = .returned (.bool true) ∧ Below W.heap.size W u := by
  have HA := Lib.hid hDa
  have HB := Lib.hid hDb
  have FA := Lib.hid (fun v hv => few_any A da dac v (hDa.old hv |>.le hv.size) hma (fun k hk => (hka _ (List.getElem_mem hk)).1))
  have FB := Lib.hid (fun v hv => few_any B db dbc v (hDb.old hv |>.le hv.size) hmb (fun k hk => (hkb _ (List.getElem_mem hk)).1))
  have IA := Lib.hid (fewB_iff (D := A))
  have IB := Lib.hid (fewB_iff (D := B))
  have ZA := Lib.hid hza
  have ZB := Lib.hid hzb
  clear hDa hDb hma hmb hka hkb hza hzb
  go_enter Try.func7, Try.ntmps7
  go_upto_region 1 with fail
  by_cases hw : 60 < w
  · have d1 : decide (60 < w) = true := by simpa using hw
    clear hw FA FB
    go_wp2_with fail
    refine (awake53 _).mono ?_
    rintro e u ⟨rfl, hb⟩
    have G := Lib.hid hb
    clear hb
    go_wp2
    go_ret
    exact ⟨rfl, G.out⟩
  have d1 : decide (60 < w) = false := by simpa using hw
  by_cases hh : 60 < h
  · have d2 : decide (60 < h) = true := by simpa using hh
    clear hw hh FA FB
    go_wp2_with fail
    refine (awake53 _).mono ?_
    rintro e u ⟨rfl, hb⟩
    have G := Lib.hid hb
    clear hb
    go_wp2
    go_ret
    exact ⟨rfl, G.out⟩
  have d2 : decide (60 < h) = false := by simpa using hh
  go_wp2_with fail
  refine (FA.out _ (Below.refl _ _)).mono ?_
  rintro e v1 ⟨rfl, hb⟩
  have G1 := Lib.hid hb
  have FB1 := Lib.hid (FB.out v1 hb)
  clear hb FA FB
  cases fa : fewB A
  · clear FB1
    go_wp2_with fail
    refine (awake53 _).mono ?_
    rintro e u ⟨rfl, hb⟩
    have G := Lib.hid (below_on G1.out hb)
    clear hb
    go_wp2
    go_ret
    exact ⟨rfl, G.out⟩
  go_wp2_with fail
  refine FB1.out.mono ?_
  rintro e v2 ⟨rfl, hb⟩
  have G2 := Lib.hid (below_on G1.out hb)
  clear hb FB1 G1
  cases fb : fewB B
  · go_wp2_with fail
    refine (awake53 _).mono ?_
    rintro e u ⟨rfl, hb⟩
    have G := Lib.hid (below_on G2.out hb)
    clear hb
    go_wp2
    go_ret
    exact ⟨rfl, G.out⟩
  have lA := (IA.out.1 fa).1
  have lB := (IB.out.1 fb).1
  clear IA IB fa fb d1 d2
  have HA2 := Lib.hid ((HA.out.old G2.out).le G2.out.size)
  have HB2 := Lib.hid ((HB.out.old G2.out).le G2.out.size)
  clear HA HB
  obtain ⟨LA, eA, pA, cA⟩ := drs_list HA2.out
  obtain ⟨LB, eB, pB, cB⟩ := drs_list HB2.out
  have hLA : LA.length = A.length := by rw [← eA, List.length_map]
  have hLB : LB.length = B.length := by rw [← eB, List.length_map]
  have PA := Lib.hid pA
  have PB := Lib.hid pB
  have CA := Lib.hid cA
  have CB := Lib.hid cB
  have EA := Lib.hid eA
  have EB := Lib.hid eB
  have HLA := Lib.hid hLA
  have HLB := Lib.hid hLB
  obtain ⟨i0, hi, hz0, hz1, hz2⟩ := info_parts Try.infoDw
  clear pA pB cA cB eA eB hLA hLB
  go_upto_region 3 with fail
  go_wp2_with (at_builtin; refine wpList_append_src rfl _ _ 36 rfl v2.heap.size 27 i0 (.agg #[.int .i64 0, .int .i64 0, .int .i64 0, .int .i64 0, .int .i64 0, .slice none 0 0, .int .i64 0, .int .i64 0, .int .i64 0, .int .i64 0]) 10 96 Try.underlying36 hi hz0 hz1 hz2 rfl (by decide) _ 0 [] rfl (World.ownsRow_made v2 #[] 0 (Nat.le_refl _) (by decide) rfl) da A.length dac (drcs LA) rfl ZA.out ?t1 ?t2 ?t3 ?t4 ?t5 ?t6 ?_)
  case t1 => rw [drcs_len, HLA.out]
  case t2 => intro ad had j u hj; exact cell_on (CA.out ad had j u hj) (below_al _ _)
  case t3 => exact drcs_one LA
  case t4 => unfold maxLen; omega
  case t5 => omega
  case t6 => simp
  intro va v3 hown3 hgr3
  have hb3 : Below v2.heap.size v2 v3 := (below_al v2 (.cells #[] 27)).grown hgr3 (by simp) (fun k hk => by
    have : v2.heap.size = k := by simpa [Value.ownBlock] using hk
    omega)
  obtain ⟨aa, ca, rfl⟩ := own_slice hown3
  have O3 := Lib.hid hown3
  have B3 := Lib.hid hb3
  clear hown3 hgr3 hb3
  go_wp2_with (at_builtin; refine wpList_append_src rfl _ _ 36 rfl v2.heap.size 27 i0 (.agg #[.int .i64 0, .int .i64 0, .int .i64 0, .int .i64 0, .int .i64 0, .slice none 0 0, .int .i64 0, .int .i64 0, .int .i64 0, .int .i64 0]) 10 96 Try.underlying36 hi hz0 hz1 hz2 rfl (by decide) _ A.length (drcs LA) rfl O3.out db B.length dbc (drcs LB) rfl ZB.out ?s1 ?s2 ?s3 ?s4 ?s5 ?s6 ?_)
  case s1 => rw [drcs_len, HLB.out]
  case s2 => intro ad had j u hj; exact cell_on (CB.out ad had j u hj) B3.out
  case s3 => exact drcs_one LB
  case s4 => unfold maxLen; omega
  case s5 => omega
  case s6 => exact B3.out.size
  intro vb v4 hown4 hgr4
  have hb4 : Below v2.heap.size v2 v4 := B3.out.grown hgr4 B3.out.size (fun k hk => (O3.out.lt k hk).1)
  rw [← drcs_append, ← HLA.out, ← HLB.out, ← List.length_append] at hown4
  obtain ⟨ab, cb, rfl⟩ := own_slice hown4
  have HAB : Hid (Drs v4 v4.heap.size ab (A ++ B)) := Lib.hid (by
    have := own_drs hown4 (fun p hp => by
      rw [List.mem_append] at hp
      rcases hp with hp | hp
      · exact ((PA.out p hp).old hb4).le hb4.size
      · exact ((PB.out p hp).old hb4).le hb4.size) (Nat.le_refl _)
    rw [List.map_append, EA.out, EB.out] at this
    exact this)
  have HLAB : Hid ((LA ++ LB).length = (A ++ B).length) := Lib.hid (by rw [List.length_append, List.length_append, HLA.out, HLB.out])
  have HA4 := Lib.hid ((HA2.out.old hb4).le hb4.size)
  have HB4 := Lib.hid ((HB2.out.old hb4).le hb4.size)
  have G4 := Lib.hid (below_on G2.out hb4)
  clear hown4 hgr4 hb4 O3 B3 HA2 HB2 G2 PA PB CA CB EA EB HLA HLB hi hz0 hz1 hz2
  rw [HLAB.out, List.length_append]
  obtain ⟨n, hn⟩ : ∃ n : Nat, (sideB w && sideB h) = true → (n : Int) = w * h := ⟨(w * h).toNat, fun hs => by
    rw [Bool.and_eq_true, sideB_iff, sideB_iff] at hs
    have : 0 ≤ w * h := Int.mul_nonneg (by omega) (by omega)
    omega⟩
  have hab : (A ++ B).length ≤ 60 := by rw [List.length_append]; omega
  have pt1 := Paint_any w h n (A ++ B) ab cb v4 hn HAB.out (by omega)
  rw [List.length_append] at pt1
  have PT1 := Lib.hid pt1
  clear pt1
  have PT2 := Lib.hid (fun v (hv : Below v4.heap.size v4 v) => Paint_any w h n A da dac v hn ((HA4.out.old hv).le hv.size) (by omega))
  have IE := Lib.hid (io_err (a := A) (b := B) hn lA lB)
  have IG := Lib.hid (fun h1 h2 => io_good (w := w) (h := h) (n := n) (a := A) (b := B) h1 h2)
  clear hn HAB hab HLAB
  generalize pnE w h n (A ++ B) = E1 at *
  generalize pnE w h n A = E2 at *
  generalize pnW w h n (A ++ B) = xW at *
  generalize pnH w h n (A ++ B) = xH at *
  generalize pnV w h n (A ++ B) = xV at *
  generalize pnW w h n A = yW at *
  generalize pnH w h n A = yH at *
  generalize pnV w h n A = yV at *
  go_wp2_with fail
  refine PT1.out.mono ?_
  rintro e v5 ⟨xad, xcp, rfl, hN, -, hb⟩
  simp only [pl4]
  have XN := Lib.hid hN
  have HA5 := Lib.hid ((HA4.out.old hb).le hb.size)
  have HB5 := Lib.hid ((HB4.out.old hb).le hb.size)
  have PT3 := Lib.hid (fun v (hv : Below v5.heap.size v5 v) => PT2.out v (hb.trans (hv.mono hb.size)))
  have G5 := Lib.hid (below_on G4.out hb)
  clear hN hb PT1 PT2 HA4 HB4 G4
  go_upto_region 4 with fail
  have b6 := below_al v5 (.cells #[.int .i64 (xW 0), .int .i64 (xH 0), .slice (xad 0) (xV 0).length (xcp 0), .int .i64 (xW 1), .int .i64 (xH 1), .slice (xad 1) (xV 1).length (xcp 1), .int .i64 (xW 2), .int .i64 (xH 2), .slice (xad 2) (xV 2).length (xcp 2), .int .i64 (xW 3), .int .i64 (xH 3), .slice (xad 3) (xV 3).length (xcp 3)] 41)
  have XP := Lib.hid (P12.new v5 xW xH xad xcp xV 41)
  have XN6 := Lib.hid (XN.out.later b6)
  have HB6 := Lib.hid ((HB5.out.old b6).le b6.size)
  have G6 := Lib.hid (below_on G5.out b6)
  have PT4 := Lib.hid (PT3.out _ b6)
  clear b6 XN HB5 HA5 G5 PT3
  generalize v5.alloc (.cells #[.int .i64 (xW 0), .int .i64 (xH 0), .slice (xad 0) (xV 0).length (xcp 0), .int .i64 (xW 1), .int .i64 (xH 1), .slice (xad 1) (xV 1).length (xcp 1), .int .i64 (xW 2), .int .i64 (xH 2), .slice (xad 2) (xV 2).length (xcp 2), .int .i64 (xW 3), .int .i64 (xH 3), .slice (xad 3) (xV 3).length (xcp 3)] 41) = v6 at *
  generalize v5.heap.size = xb at *
  go_wp2_with fail
  refine PT4.out.mono ?_
  rintro e v7 ⟨yad, ycp, rfl, hN, -, hb⟩
  simp only [pl4]
  have YN := Lib.hid hN
  have XP7 := Lib.hid (XP.out.later hb)
  have XN7 := Lib.hid (XN6.out.later hb)
  have HB7 := Lib.hid ((HB6.out.old hb).le hb.size)
  have G7 := Lib.hid (below_on G6.out hb)
  clear hN hb PT4 XP XN6 HB6 G6
  go_upto_region 5 with fail
  have b8 := below_al v7 (.cells #[.int .i64 (yW 0), .int .i64 (yH 0), .slice (yad 0) (yV 0).length (ycp 0), .int .i64 (yW 1), .int .i64 (yH 1), .slice (yad 1) (yV 1).length (ycp 1), .int .i64 (yW 2), .int .i64 (yH 2), .slice (yad 2) (yV 2).length (ycp 2), .int .i64 (yW 3), .int .i64 (yH 3), .slice (yad 3) (yV 3).length (ycp 3)] 41)
  have YP := Lib.hid (P12.new v7 yW yH yad ycp yV 41)
  have YN8 := Lib.hid (YN.out.later b8)
  have XP8 := Lib.hid (XP7.out.later b8)
  have XN8 := Lib.hid (XN7.out.later b8)
  have HB8 := Lib.hid ((HB7.out.old b8).le b8.size)
  have G8 := Lib.hid (below_on G7.out b8)
  clear b8 YN XP7 XN7 HB7 G7
  generalize v7.alloc (.cells #[.int .i64 (yW 0), .int .i64 (yH 0), .slice (yad 0) (yV 0).length (ycp 0), .int .i64 (yW 1), .int .i64 (yH 1), .slice (yad 1) (yV 1).length (ycp 1), .int .i64 (yW 2), .int .i64 (yH 2), .slice (yad 2) (yV 2).length (ycp 2), .int .i64 (yW 3), .int .i64 (yH 3), .slice (yad 3) (yV 3).length (ycp 3)] 41) = v8 at *
  generalize v7.heap.size = yb at *
  by_cases e2 : E2 = 0
  · by_cases e1 : E1 = 0
    · obtain ⟨k1, k2, k3, k4, k5, k6⟩ := IG.out e1 e2
      subst e1 e2
      have k4f : ovV yW yH yV B = xV := funext k4
      obtain ⟨m1, m2, m3, m4⟩ := ov_nil k6
      obtain ⟨y1, y2, y3⟩ := errP_bd k5
      obtain ⟨x1, x2, x3⟩ := errP_bd k6
      have XL := Lib.hid x1
      have OV1 := Over_any yW yH yad ycp yV B db dbc v8 YN8.out y1 y2 y3 HB8.out (by omega)
      rw [k1, k2, k3, k4f] at OV1
      unfold pl4 at OV1
      have OV1 := Lib.hid OV1
      have OV2 := Lib.hid (fun (ad : Nat → Option Addr) (cp : Nat → Nat) (v : World) (hN : Ns4 v ad xV) => (Over_any xW xH ad cp xV [] none 0 v hN x1 x2 x3 (fun h => absurd h (by simp)) (by simp)).mono fun e u h => plR_congr h m2 m3 m4 m1)
      have SM := Lib.hid (fun (ad ad' : Nat → Option Addr) (cp cp' : Nat → Nat) (v : World) (hN : Ns4 v ad xV) (hN' : Ns4 v ad' xV) => same4_true xW xH xV ad ad' cp cp' v hN hN' x1)
      clear k1 k2 k3 k4 k5 k6 k4f m1 m2 m3 m4 x1 x2 x3 y1 y2 y3 IE IG YN8 HB8
      unfold pl4 at *
      obtain ⟨h0, h1, h2, h3, h4, h5, h6, h7, h8, h9, h10, h11⟩ := YP.out
      go_wp2_with fail
      refine OV1.out.mono ?_
      rintro e v9 ⟨zad, zcp, rfl, hN, -, hb⟩
      simp only [pl4]
      have ZN := Lib.hid hN
      have XP9 := Lib.hid (XP8.out.later hb)
      have XN9 := Lib.hid (XN8.out.later hb)
      have G9 := Lib.hid (below_on G8.out hb)
      clear hN hb OV1 XP8 XN8 G8 YP h0 h1 h2 h3 h4 h5 h6 h7 h8 h9 h10 h11
      go_upto_region 8 with fail
      have b10 := below_al v9 (.cells #[.int .i64 (xW 0), .int .i64 (xH 0), .slice (zad 0) (xV 0).length (zcp 0), .int .i64 (xW 1), .int .i64 (xH 1), .slice (zad 1) (xV 1).length (zcp 1), .int .i64 (xW 2), .int .i64 (xH 2), .slice (zad 2) (xV 2).length (zcp 2), .int .i64 (xW 3), .int .i64 (xH 3), .slice (zad 3) (xV 3).length (zcp 3)] 41)
      have ZP := Lib.hid (P12.new v9 xW xH zad zcp xV 41)
      have ZN10 := Lib.hid (ZN.out.later b10)
      have XP10 := Lib.hid (XP9.out.later b10)
      have XN10 := Lib.hid (XN9.out.later b10)
      have G10 := Lib.hid (below_on G9.out b10)
      clear b10 ZN XP9 XN9 G9
      generalize v9.alloc (.cells #[.int .i64 (xW 0), .int .i64 (xH 0), .slice (zad 0) (xV 0).length (zcp 0), .int .i64 (xW 1), .int .i64 (xH 1), .slice (zad 1) (xV 1).length (zcp 1), .int .i64 (xW 2), .int .i64 (xH 2), .slice (zad 2) (xV 2).length (zcp 2), .int .i64 (xW 3), .int .i64 (xH 3), .slice (zad 3) (xV 3).length (zcp 3)] 41) = v10 at *
      generalize v9.heap.size = zb at *
      have OV3 := Lib.hid (OV2.out zad zcp v10 ZN10.out)
      clear OV2
      obtain ⟨h0, h1, h2, h3, h4, h5, h6, h7, h8, h9, h10, h11⟩ := ZP.out
      go_wp2_with fail
      refine OV3.out.mono ?_
      rintro e v11 ⟨tad, tcp, rfl, hN, -, hb⟩
      simp only [pl4]
      have TN := Lib.hid hN
      have ZP11 := Lib.hid (ZP.out.later hb)
      have ZN11 := Lib.hid (ZN10.out.later hb)
      have XP11 := Lib.hid (XP10.out.later hb)
      have XN11 := Lib.hid (XN10.out.later hb)
      have G11 := Lib.hid (below_on G10.out hb)
      clear hN hb OV3 ZP ZN10 XP10 XN10 G10 h0 h1 h2 h3 h4 h5 h6 h7 h8 h9 h10 h11
      go_upto_region 9 with fail
      have b12 := below_al v11 (.cells #[.int .i64 (xW 0), .int .i64 (xH 0), .slice (tad 0) (xV 0).length (tcp 0), .int .i64 (xW 1), .int .i64 (xH 1), .slice (tad 1) (xV 1).length (tcp 1), .int .i64 (xW 2), .int .i64 (xH 2), .slice (tad 2) (xV 2).length (tcp 2), .int .i64 (xW 3), .int .i64 (xH 3), .slice (tad 3) (xV 3).length (tcp 3)] 41)
      have TP := Lib.hid (P12.new v11 xW xH tad tcp xV 41)
      have TN12 := Lib.hid (TN.out.later b12)
      have ZP12 := Lib.hid (ZP11.out.later b12)
      have ZN12 := Lib.hid (ZN11.out.later b12)
      have XP12 := Lib.hid (XP11.out.later b12)
      have XN12 := Lib.hid (XN11.out.later b12)
      have G12 := Lib.hid (below_on G11.out b12)
      clear b12 TN ZP11 ZN11 XP11 XN11 G11
      generalize v11.alloc (.cells #[.int .i64 (xW 0), .int .i64 (xH 0), .slice (tad 0) (xV 0).length (tcp 0), .int .i64 (xW 1), .int .i64 (xH 1), .slice (tad 1) (xV 1).length (tcp 1), .int .i64 (xW 2), .int .i64 (xH 2), .slice (tad 2) (xV 2).length (tcp 2), .int .i64 (xW 3), .int .i64 (xH 3), .slice (tad 3) (xV 3).length (tcp 3)] 41) = v12 at *
      generalize v11.heap.size = tb at *
      have SM1 := Lib.hid (SM.out zad xad zcp xcp v12 ZN12.out XN12.out)
      obtain ⟨h0, h1, h2, h3, h4, h5, h6, h7, h8, h9, h10, h11⟩ := ZP12.out
      obtain ⟨g0, g1, g2, g3, g4, g5, g6, g7, g8, g9, g10, g11⟩ := XP12.out
      go_wp2_with fail
      refine SM1.out.mono ?_
      rintro e v13 ⟨rfl, hb⟩
      have TP13 := Lib.hid (TP.out.later hb)
      have TN13 := Lib.hid (TN12.out.later hb)
      have XP13 := Lib.hid (XP12.out.later hb)
      have XN13 := Lib.hid (XN12.out.later hb)
      have G13 := Lib.hid (below_on G12.out hb)
      clear hb SM1 TP TN12 ZP12 ZN12 XP12 XN12 G12 h0 h1 h2 h3 h4 h5 h6 h7 h8 h9 h10 h11 g0 g1 g2 g3 g4 g5 g6 g7 g8 g9 g10 g11
      have SM2 := Lib.hid (SM.out tad xad tcp xcp v13 TN13.out XN13.out)
      clear SM
      obtain ⟨h0, h1, h2, h3, h4, h5, h6, h7, h8, h9, h10, h11⟩ := TP13.out
      obtain ⟨g0, g1, g2, g3, g4, g5, g6, g7, g8, g9, g10, g11⟩ := XP13.out
      go_wp2_with fail
      refine SM2.out.mono ?_
      rintro e v14 ⟨rfl, hb⟩
      have G14 := Lib.hid (below_on G13.out hb)
      clear hb SM2 TP13 TN13 XP13 XN13 G13 h0 h1 h2 h3 h4 h5 h6 h7 h8 h9 h10 h11 g0 g1 g2 g3 g4 g5 g6 g7 g8 g9 g10 g11
      go_wp2_with fail
      refine (awake53 _).mono ?_
      rintro e u ⟨rfl, hb⟩
      have G := Lib.hid (below_on G14.out hb)
      clear hb
      go_wp2
      go_ret
      exact ⟨rfl, G.out⟩
    · have d1 : (E1 == 0) = false := by simpa using e1
      have d2 : (E1 != 0) = true := by simpa using e1
      subst e2
      clear XP8 YP XN8 YN8 HB8 IG IE e1
      go_wp2_with fail
      refine (awake53 _).mono ?_
      rintro e u ⟨rfl, hb⟩
      have G := Lib.hid (below_on G8.out hb)
      clear hb
      go_wp2
      go_ret
      exact ⟨rfl, G.out⟩
  · have e1 : E1 = E2 := by rcases IE.out with h | h; exact absurd h e2; exact h
    subst e1
    have d1 : (E1 == 0) = false := by simpa using e2
    have d2 : (E1 != 0) = true := by simpa using e2
    have d3 : (E1 == E1) = true := by simp
    clear XP8 YP XN8 YN8 HB8 IG IE e2
    go_wp2_with fail
    refine (awake53 _).mono ?_
    rintro e u ⟨rfl, hb⟩
    have G := Lib.hid (below_on G8.out hb)
    clear hb
    go_wp2
    go_ret
    exact ⟨rfl, G.out⟩
end Go.Proofs.Ytjclioakdmilmaa
