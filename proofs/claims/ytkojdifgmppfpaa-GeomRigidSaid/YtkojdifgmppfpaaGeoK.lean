/- The contract of geom.Dist. -/
import Derived.Test.YtkojdifgmppfpaaGeoJ
namespace Go.Proofs.Ytkojdifgmppfpaa
open Go.RowKit
open Num Geo
set_option linter.unusedVariables false
set_option maxHeartbeats 1000000 in
theorem Dist_lo (ax ay bx by_ cx cy : Int) (w : World) (h : nearL [(ax, ay), (bx, by_), (cx, cy)] = true) (h1 : al ax ay bx by_ cx cy ≤ 0) :
    Calls Try.prog 24 #[.agg #[.int .i64 ax, .int .i64 ay], .agg #[.int .i64 bx, .int .i64 by_], .agg #[.int .i64 cx, .int .i64 cy]] w (DistOut (sq ax ay cx cy) 1 w) := by
  have H1 := Lib.hid h
  have hn := (near3_iff ax ay bx by_ cx cy).1 h
  have HN := Lib.hid hn
  obtain ⟨hna, hnb, hnc⟩ := hn
  unfold Nr at hna hnb hnc
  have p1 := prod_in (a := bx - ax) (b := cx - ax) (by omega) (by omega)
  have p2 := prod_in (a := by_ - ay) (b := cy - ay) (by omega) (by omega)
  have SQ := Lib.hid (fun v => square_any ax ay bx by_ v HN.out.1 HN.out.2.1)
  have SP := Lib.hid (fun v => square_any ax ay cx cy v HN.out.1 HN.out.2.2)
  have AE : (bx - ax) * (cx - ax) + (by_ - ay) * (cy - ay) = al ax ay bx by_ cx cy := rfl
  generalize al ax ay bx by_ cx cy = s at *
  generalize sq ax ay bx by_ = L at *
  generalize sq ax ay cx cy = q1 at *
  clear h
  go_enter Try.func24, Try.ntmps24
  go_wp2_with fail
  refine (nearD w ax ay bx by_ cx cy).mono ?_
  rintro e w1 ⟨rfl, hb⟩
  rw [H1.out]
  have HB := Lib.hid hb
  obtain ⟨⟨c0, c1, c2, c3, c4, c5, -⟩, ⟨d0, d1, y0⟩⟩ := hb
  go_wp2_with fail
  refine (SQ.out _).mono ?_
  rintro e w2 ⟨rfl, hb2⟩
  have HB2 := Lib.hid (HB.out.later hb2)
  clear HB hb2 c0 c1 c2 c3 c4 c5 d0 d1 y0
  obtain ⟨⟨c0, c1, c2, c3, c4, c5, -⟩, ⟨d0, d1, y0⟩⟩ := HB2.out
  go_wp2_with fail
  refine (SP.out _).mono ?_
  rintro e w3 ⟨rfl, hb3⟩
  have HB3 := Lib.hid (HB2.out.later hb3)
  clear HB2 hb3 c0 c1 c2 c3 c4 c5 d0 d1 y0
  obtain ⟨⟨c0, c1, c2, c3, c4, c5, -⟩, ⟨d0, d1, y0⟩⟩ := HB3.out
  go_wp2
  obtain ⟨⟨k0, k1, k2⟩, k3⟩ := dist_end HB3.out q1 1
  exact bodyPost_ret (v := .agg #[.int .i64 q1, .int .i64 1]) (by simp [results, Try.results24, go_sem, k0, k1]) rfl ⟨rfl, k3⟩
set_option maxHeartbeats 1000000 in
theorem Dist_hi (ax ay bx by_ cx cy : Int) (w : World) (h : nearL [(ax, ay), (bx, by_), (cx, cy)] = true) (h1 : 0 < al ax ay bx by_ cx cy) (h2 : sq ax ay bx by_ ≤ al ax ay bx by_ cx cy) :
    Calls Try.prog 24 #[.agg #[.int .i64 ax, .int .i64 ay], .agg #[.int .i64 bx, .int .i64 by_], .agg #[.int .i64 cx, .int .i64 cy]] w (DistOut (sq bx by_ cx cy) 1 w) := by
  have H1 := Lib.hid h
  have hn := (near3_iff ax ay bx by_ cx cy).1 h
  have HN := Lib.hid hn
  obtain ⟨hna, hnb, hnc⟩ := hn
  unfold Nr at hna hnb hnc
  have p1 := prod_in (a := bx - ax) (b := cx - ax) (by omega) (by omega)
  have p2 := prod_in (a := by_ - ay) (b := cy - ay) (by omega) (by omega)
  have SQ := Lib.hid (fun v => square_any ax ay bx by_ v HN.out.1 HN.out.2.1)
  have SP := Lib.hid (fun v => square_any bx by_ cx cy v HN.out.2.1 HN.out.2.2)
  have AE : (bx - ax) * (cx - ax) + (by_ - ay) * (cy - ay) = al ax ay bx by_ cx cy := rfl
  generalize al ax ay bx by_ cx cy = s at *
  generalize sq ax ay bx by_ = L at *
  generalize sq bx by_ cx cy = q1 at *
  clear h
  go_enter Try.func24, Try.ntmps24
  go_wp2_with fail
  refine (nearD w ax ay bx by_ cx cy).mono ?_
  rintro e w1 ⟨rfl, hb⟩
  rw [H1.out]
  have HB := Lib.hid hb
  obtain ⟨⟨c0, c1, c2, c3, c4, c5, -⟩, ⟨d0, d1, y0⟩⟩ := hb
  go_wp2_with fail
  refine (SQ.out _).mono ?_
  rintro e w2 ⟨rfl, hb2⟩
  have HB2 := Lib.hid (HB.out.later hb2)
  clear HB hb2 c0 c1 c2 c3 c4 c5 d0 d1 y0
  obtain ⟨⟨c0, c1, c2, c3, c4, c5, -⟩, ⟨d0, d1, y0⟩⟩ := HB2.out
  go_wp2_with fail
  refine (SP.out _).mono ?_
  rintro e w3 ⟨rfl, hb3⟩
  have HB3 := Lib.hid (HB2.out.later hb3)
  clear HB2 hb3 c0 c1 c2 c3 c4 c5 d0 d1 y0
  obtain ⟨⟨c0, c1, c2, c3, c4, c5, -⟩, ⟨d0, d1, y0⟩⟩ := HB3.out
  go_wp2
  obtain ⟨⟨k0, k1, k2⟩, k3⟩ := dist_end HB3.out q1 1
  exact bodyPost_ret (v := .agg #[.int .i64 q1, .int .i64 1]) (by simp [results, Try.results24, go_sem, k0, k1]) rfl ⟨rfl, k3⟩
end Go.Proofs.Ytkojdifgmppfpaa
