/- The contracts of geom.square, math/bits.Add64 and geom.Dist. -/
import Derived.Test.YtkojdifgmppfpaaGeoC
import Derived.Test.YtkojdifgmppfpaaGeoH
import Derived.Test.YtkojdifgmppfpaaGeoPlainD
import Derived.Laws.Externs
namespace Go.Proofs.Ytkojdifgmppfpaa
open Go.RowKit
open Num Geo
set_option linter.unusedVariables false
theorem add64_run (x y : Nat) (w : World) : (callFunc 45 #[.int .u64 x, .int .u64 y, .int .u64 0]).run Try.prog w = .ok (.value (.tuple #[.int .u64 (((x + y) % 18446744073709551616 : Nat) : Int), .int .u64 (((x + y) / 18446744073709551616 : Nat) : Int)])) w := by
  rw [run_callFunc_extern Try.func45 (by kernel_rfl) (by kernel_rfl) (by kernel_rfl) (e := add64Entry) (by kernel_rfl), run_add64 x y 0 (by omega) (by omega) (by omega) (by omega)]
  simp only [Result.andThen]
  congr 5 <;> omega
set_option maxHeartbeats 1000000 in
theorem square_any (ax ay bx by_ : Int) (w : World) (ha : Nr ax ay) (hb : Nr bx by_) :
    Calls Try.prog 41 #[.agg #[.int .i64 ax, .int .i64 ay], .agg #[.int .i64 bx, .int .i64 by_]] w fun e w' => e = .returned (.int .i64 (sq ax ay bx by_)) ∧ Below w.heap.size w w' := by
  unfold Nr at ha hb
  have p1 := prod_in (a := bx - ax) (b := bx - ax) (by omega) (by omega)
  have p2 := prod_in (a := by_ - ay) (b := by_ - ay) (by omega) (by omega)
  go_enter Try.func41, Try.ntmps41
  go_wp2
  go_ret
  exact ⟨rfl, by go_grown⟩
/-- three points and the box of the result -/
def HasD (w v : World) (ax ay bx by_ cx cy : Int) : Prop := Has3 w v ax ay bx by_ cx cy ∧ Bx v (w.heap.size + 1 + 1 + 1) 0 0
theorem HasD.later {w v u : World} {ax ay bx by_ cx cy : Int} (h : HasD w v ax ay bx by_ cx cy) (hb : Below v.heap.size v u) : HasD w u ax ay bx by_ cx cy := ⟨h.1.later hb, h.2.later hb⟩
def D3 (w : World) (ax ay bx by_ cx cy : Int) : World := (((w.alloc (.cells #[.int .i64 ax, .int .i64 ay] 23)).alloc (.cells #[.int .i64 bx, .int .i64 by_] 23)).alloc (.cells #[.int .i64 cx, .int .i64 cy] 23)).alloc (.cells #[.int .i64 0, .int .i64 0] 32)
def E3 (w : World) (ax ay bx by_ cx cy : Int) : World := (D3 w ax ay bx by_ cx cy).alloc (.cells #[.int .i64 ax, .int .i64 ay, .int .i64 bx, .int .i64 by_, .int .i64 cx, .int .i64 cy] 23)
theorem D3_size (w : World) (ax ay bx by_ cx cy : Int) : (D3 w ax ay bx by_ cx cy).heap.size = w.heap.size + 1 + 1 + 1 + 1 := by unfold D3; simp
theorem D3_has (w : World) (ax ay bx by_ cx cy : Int) : HasD w (D3 w ax ay bx by_ cx cy) ax ay bx by_ cx cy := by
  refine ⟨(B3_has w ax ay bx by_ cx cy).later (below_al _ _), ?_⟩
  rw [← B3_size w ax ay bx by_ cx cy]
  exact Bx.new (B3 w ax ay bx by_ cx cy) 0 0 _
theorem E3_pts (w : World) (ax ay bx by_ cx cy : Int) : Pts (E3 w ax ay bx by_ cx cy) (E3 w ax ay bx by_ cx cy).heap.size (some ⟨w.heap.size + 1 + 1 + 1 + 1, 0, none⟩) [(ax, ay), (bx, by_), (cx, cy)] := fun _ => by
  refine ⟨_, _, rfl, ?_, ?_⟩
  · unfold E3; rw [← D3_size w ax ay bx by_ cx cy]; simp
  · intro j hj
    unfold E3
    rw [← D3_size w ax ay bx by_ cx cy]
    match j, hj with
    | 0, _ => exact ⟨by simp, by simp⟩
    | 1, _ => exact ⟨by simp, by simp⟩
    | 2, _ => exact ⟨by simp, by simp⟩
theorem nearD (w : World) (ax ay bx by_ cx cy : Int) : Calls Try.prog 32 #[.slice (some ⟨w.heap.size + 1 + 1 + 1 + 1, 0, none⟩) 3 3] (E3 w ax ay bx by_ cx cy) fun e w' => e = .returned (.bool (nearL [(ax, ay), (bx, by_), (cx, cy)])) ∧ HasD w w' ax ay bx by_ cx cy :=
  (near_any [(ax, ay), (bx, by_), (cx, cy)] _ 3 _ (by simp) (E3_pts w ax ay bx by_ cx cy)).mono fun e w' ⟨h1, h2⟩ => ⟨h1, ((D3_has w ax ay bx by_ cx cy).later (below_al _ _)).later h2⟩
/-- the result in its box -/
theorem dist_end {w u : World} {ax ay bx by_ cx cy : Int} (h : HasD w u ax ay bx by_ cx cy) (x y : Int) :
    Bx ((u.setCell ⟨w.heap.size + 1 + 1 + 1, 0, none⟩ (.int .i64 x)).setCell ⟨w.heap.size + 1 + 1 + 1, 1, none⟩ (.int .i64 y)) (w.heap.size + 1 + 1 + 1) x y ∧
    Below w.heap.size w ((u.setCell ⟨w.heap.size + 1 + 1 + 1, 0, none⟩ (.int .i64 x)).setCell ⟨w.heap.size + 1 + 1 + 1, 1, none⟩ (.int .i64 y)) := by
  have l3 : w.heap.size ≤ w.heap.size + 1 + 1 + 1 := by omega
  exact ⟨h.2.same x y, (h.1.2.2.2.2.2.2.setCell l3 _).setCell l3 _⟩
def DistOut (x y : Int) (w : World) (e : Ending) (w' : World) : Prop := e = .returned (.agg #[.int .i64 x, .int .i64 y]) ∧ Below w.heap.size w w'
set_option maxHeartbeats 2000000 in
theorem Dist_off (ax ay bx by_ cx cy : Int) (w : World) (h : nearL [(ax, ay), (bx, by_), (cx, cy)] = false) :
    Calls Try.prog 24 #[.agg #[.int .i64 ax, .int .i64 ay], .agg #[.int .i64 bx, .int .i64 by_], .agg #[.int .i64 cx, .int .i64 cy]] w (DistOut 0 0 w) := by
  have H1 := Lib.hid h
  clear h
  go_enter Try.func24, Try.ntmps24
  go_wp2_with fail
  refine (nearD w ax ay bx by_ cx cy).mono ?_
  rintro e w1 ⟨rfl, hb⟩
  rw [H1.out]
  have HB := Lib.hid hb
  obtain ⟨⟨-, -, -, -, -, -, -⟩, ⟨d0, d1, y0⟩⟩ := hb
  go_wp2
  obtain ⟨⟨k0, k1, k2⟩, k3⟩ := dist_end HB.out 0 0
  exact bodyPost_ret (v := .agg #[.int .i64 0, .int .i64 0]) (by simp [results, Try.results24, go_sem, k0, k1]) rfl ⟨rfl, k3⟩
end Go.Proofs.Ytkojdifgmppfpaa
