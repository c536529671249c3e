/- The contract of geom.Dist, the inner case and the whole. -/
import Derived.Test.YtkojdifgmppfpaaGeoL
namespace Go.Proofs.Ytkojdifgmppfpaa
open Go.RowKit
open Num Geo
set_option linter.unusedVariables false
set_option maxRecDepth 100000 in
set_option maxHeartbeats 1000000 in
theorem Dist_mid (ax ay bx by_ cx cy : Int) (w : World) (h : nearL [(ax, ay), (bx, by_), (cx, cy)] = true) (h1 : 0 < al ax ay bx by_ cx cy) (h2 : al ax ay bx by_ cx cy < sq ax ay bx by_) :
    Calls Try.prog 24 #[.agg #[.int .i64 ax, .int .i64 ay], .agg #[.int .i64 bx, .int .i64 by_], .agg #[.int .i64 cx, .int .i64 cy]] w (DistOut (frN (tw ax ay bx by_ cx cy * tw ax ay bx by_ cx cy).toNat (sq ax ay bx by_).toNat) (frD (tw ax ay bx by_ cx cy * tw ax ay bx by_ cx cy).toNat (sq ax ay bx by_).toNat) w) := by
  have H1 := Lib.hid h
  have hn := (near3_iff ax ay bx by_ cx cy).1 h
  have HN := Lib.hid hn
  obtain ⟨T, L, eT, eL, hL0, hL1, hW⟩ := mid_nums hn.1 hn.2.1 hn.2.2 h1 h2
  obtain ⟨hna, hnb, hnc⟩ := hn
  unfold Nr at hna hnb hnc
  have p1 := prod_in (a := bx - ax) (b := cx - ax) (by omega) (by omega)
  have p2 := prod_in (a := by_ - ay) (b := cy - ay) (by omega) (by omega)
  have tb : I64 (tw ax ay bx by_ cx cy) := by
    have t1 := prod_in (a := bx - ax) (b := cy - ay) (by omega) (by omega)
    have t2 := prod_in (a := by_ - ay) (b := cx - ax) (by omega) (by omega)
    unfold tw I64; omega
  have SQ := Lib.hid (fun v => square_any ax ay bx by_ v HN.out.1 HN.out.2.1)
  have TW := Lib.hid (fun v => twice_any ax ay bx by_ cx cy v HN.out.1 HN.out.2.1 HN.out.2.2)
  have AE : (bx - ax) * (cx - ax) + (by_ - ay) * (cy - ay) = al ax ay bx by_ cx cy := rfl
  rw [eT, eL]
  rw [eL] at SQ h2
  rw [show ((T : Int)).toNat = T by omega, show ((L : Int)).toNat = L by omega]
  generalize al ax ay bx by_ cx cy = s at *
  generalize tw ax ay bx by_ cx cy = t at *
  obtain ⟨W, r, g, Lg, rg, mV, mE, RR, GV, Q1, Q2, i1, i2, i3, i4, i5, eW, eN, eLg⟩ := mid_pack eT hL0 hL1 hW
  have LI : I64 (L : Int) := ⟨by omega, by omega⟩
  have MD := Lib.hid (fun v => muldiv_any t t L v tb tb LI)
  rw [mV, mE] at MD
  have GC := Lib.hid (fun v => gcd_any (r : Int) (L : Int) v ⟨by omega, by omega⟩ LI)
  rw [GV] at GC
  obtain ⟨hi, lo, su, ca, hc, eh, el, AD, HC, n1, n2⟩ := num_words W Lg rg i1 i4 i5
  have MM := Lib.hid (fun v => mul64_w W Lg (by omega) (by omega) v)
  rw [eh, el] at MM
  have FN : Hid (frN T L = if W * Lg + rg ≤ 9223372036854775807 then ((W * Lg + rg : Nat) : Int) else (W : Int)) := Lib.hid (by unfold frN; rw [eN, eW])
  have FD : Hid (frD T L = if W * Lg + rg ≤ 9223372036854775807 then (Lg : Int) else 1) := Lib.hid (by unfold frD; rw [eN, eLg])
  clear eW eN eLg eh el mV mE GV eT h tb LI hW hL0
  generalize frN T L = fN at *
  generalize frD T L = fD at *
  generalize W * Lg + rg = N at *
  have NQ := Lib.hid (show N / 18446744073709551616 = hc ∧ N % 18446744073709551616 = su from ⟨n1, n2⟩)
  clear n1 n2
  have k1 : (1 : Int) ≤ (g : Int) := by omega
  have k0 : ((g : Int) = 0) = False := by simp; omega
  have k2 : (W : Int) ≤ 35184372088832 := by omega
  have k3 : (Lg : Int) ≤ 35184372088832 := by omega
  have k4 : (rg : Int) ≤ 35184372088832 := by omega
  have k5 : decide ((L : Int) ≤ s) = false := by simp; omega
  have k6 : decide (s ≤ 0) = false := by simp; omega
  clear i1 i2 i3 i4 i5 hL1
  go_enter Try.func24, Try.ntmps24
  go_wp2_with fail
  refine (nearD w ax ay bx by_ cx cy).mono ?_
  rintro e w1 ⟨rfl, hb⟩
  rw [H1.out]
  have HB := Lib.hid hb
  obtain ⟨⟨c0, c1, c2, c3, c4, c5, -⟩, ⟨d0, d1, y0⟩⟩ := hb
  go_wp2_with fail
  refine (SQ.out _).mono ?_
  rintro e w2 ⟨rfl, hb2⟩
  have HB2 := Lib.hid (HB.out.later hb2)
  clear HB hb2 c0 c1 c2 c3 c4 c5 d0 d1 y0
  obtain ⟨⟨c0, c1, c2, c3, c4, c5, -⟩, ⟨d0, d1, y0⟩⟩ := HB2.out
  go_wp2_with fail
  refine (TW.out _).mono ?_
  rintro e w3 ⟨rfl, hb3⟩
  have HB3 := Lib.hid (HB2.out.later hb3)
  clear HB2 hb3 c0 c1 c2 c3 c4 c5 d0 d1 y0 AE p1 p2 hna hnb hnc
  go_wp2_with fail
  refine (MD.out _).mono ?_
  rintro e w4 ⟨rfl, n4, rfl⟩
  go_wp2_with fail
  refine (GC.out _).mono ?_
  rintro e w5 ⟨rfl, n5, rfl⟩
  go_wp2_with fail
  refine (MM.out _).mono ?_
  rintro e w6 ⟨rfl, hw6⟩
  subst hw6
  have HD := Lib.hid (HB3.out.later (show Below w3.heap.size w3 (w3.drewN (n4 + n5)) from below_dn (Below.refl _ _) _))
  obtain ⟨⟨c0, c1, c2, c3, c4, c5, -⟩, ⟨d0, d1, y0⟩⟩ := HD.out
  generalize w3.drewN (n4 + n5) = u at *
  clear HB3 RR MD GC MM SQ TW
  by_cases hN : N ≤ 9223372036854775807
  · have f1 := Lib.hid (FN.out.trans (if_pos hN))
    have f2 := Lib.hid (FD.out.trans (if_pos hN))
    obtain rfl : hc = 0 := by have := NQ.out.1; omega
    obtain rfl : su = N := by have := NQ.out.2; omega
    have m1 : decide ((9223372036854775807 : Int) < (su : Int)) = false := by simp; omega
    have m2 : (su : Int) ≤ 9223372036854775807 := by omega
    clear hN NQ FN FD
    go_wp2
    obtain ⟨⟨z0, z1, z2⟩, z3⟩ := dist_end HD.out (su : Int) (Lg : Int)
    rw [f1.out, f2.out]
    exact bodyPost_ret (v := .agg #[.int .i64 (su : Int), .int .i64 (Lg : Int)]) (by simp [results, Try.results24, go_sem, z0, z1]) rfl ⟨rfl, z3⟩
  · have f1 := Lib.hid (FN.out.trans (if_neg hN))
    have f2 := Lib.hid (FD.out.trans (if_neg hN))
    rcases Nat.eq_zero_or_pos hc with h0 | h0
    · subst h0
      obtain rfl : su = N := by have := NQ.out; omega
      have m1 : decide ((9223372036854775807 : Int) < (su : Int)) = true := by simp; omega
      clear hN NQ FN FD
      go_wp2
      obtain ⟨⟨z0, z1, z2⟩, z3⟩ := dist_end HD.out (W : Int) 1
      rw [f1.out, f2.out]
      exact bodyPost_ret (v := .agg #[.int .i64 (W : Int), .int .i64 1]) (by simp [results, Try.results24, go_sem, z0, z1]) rfl ⟨rfl, z3⟩
    · have m1 : decide ((0 : Int) < (hc : Int)) = true := by simp; omega
      have m2 : 0 < hc := h0
      clear hN NQ FN FD h0
      go_wp2
      obtain ⟨⟨z0, z1, z2⟩, z3⟩ := dist_end HD.out (W : Int) 1
      rw [f1.out, f2.out]
      exact bodyPost_ret (v := .agg #[.int .i64 (W : Int), .int .i64 1]) (by simp [results, Try.results24, go_sem, z0, z1]) rfl ⟨rfl, z3⟩
theorem Dist_any (ax ay bx by_ cx cy : Int) (w : World) :
    Calls Try.prog 24 #[.agg #[.int .i64 ax, .int .i64 ay], .agg #[.int .i64 bx, .int .i64 by_], .agg #[.int .i64 cx, .int .i64 cy]] w (DistOut (dsN ax ay bx by_ cx cy) (dsD ax ay bx by_ cx cy) w) := by
  unfold dsN dsD
  cases h : nearL [(ax, ay), (bx, by_), (cx, cy)]
  · rw [if_neg (by simp), if_neg (by simp)]; exact Dist_off ax ay bx by_ cx cy w h
  · rw [if_pos rfl, if_pos rfl]
    by_cases h1 : al ax ay bx by_ cx cy ≤ 0
    · rw [if_pos h1, if_pos h1]; exact Dist_lo ax ay bx by_ cx cy w h h1
    · rw [if_neg h1, if_neg h1]
      by_cases h2 : sq ax ay bx by_ ≤ al ax ay bx by_ cx cy
      · rw [if_pos h2, if_pos h2]; exact Dist_hi ax ay bx by_ cx cy w h (by omega) h2
      · rw [if_neg h2, if_neg h2]; exact Dist_mid ax ay bx by_ cx cy w h (by omega) (by omega)
end Go.Proofs.Ytkojdifgmppfpaa
