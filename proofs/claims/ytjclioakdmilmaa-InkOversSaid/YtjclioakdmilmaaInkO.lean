/- The contract of the law's awake: the chapter's example. -/
import Derived.Test.YtjclioakdmilmaaInkN
import Derived.Test.YtjclioakdmilmaaFreeN
namespace Go.Proofs.Ytjclioakdmilmaa
open Go.RowKit
open Num Ink
set_option linter.unusedVariables false
set_option maxHeartbeats 1000000 in
theorem pt_any (x y : Int) (w : World) : Calls Try.prog 24 #[.int .i64 x, .int .i64 y] w fun e u => e = .returned (.agg #[.int .i64 x, .int .i64 y]) ∧ Below w.heap.size w u := by
  have b := below_al w (.cells #[.int .i64 x, .int .i64 y] 29)
  have G := Lib.hid b
  clear b
  go_enter Try.func24, Try.ntmps24
  go_wp2
  exact bodyPost_ret (v := .agg #[.int .i64 x, .int .i64 y]) (by simp [results, Try.results24, go_sem]) rfl ⟨rfl, G.out⟩
/-- operations are returned -/
def DrRet (D : List Dr) (w : World) (e : Ending) (u : World) : Prop := ∃ a c, e = .returned (.slice a D.length c) ∧ Drs u u.heap.size a D ∧ Below w.heap.size w u
theorem drs_one (v : World) (x : Dr) (pa : Option Addr) (pc : Nat) (hp : Pts v v.heap.size pa x.l) : Drs (v.alloc (.cells #[.int .i64 x.k, .int .i64 x.x0, .int .i64 x.y0, .int .i64 x.x1, .int .i64 x.y1, .slice pa x.l.length pc, .int .i64 x.a, .int .i64 x.b, .int .i64 x.c, .int .i64 x.d] 27)) (v.heap.size + 1) (some ⟨v.heap.size, 0, none⟩) [x] := fun _ => by
  refine ⟨v.heap.size, 0, rfl, by omega, fun j hj => ?_⟩
  obtain rfl : j = 0 := by simpa using hj
  refine ⟨pa, pc, ?_, (hp.later (below_al _ _)).le (by simp)⟩
  unfold DwAt; simp
set_option maxHeartbeats 2000000 in
theorem example_any (w : World) : Calls Try.prog 31 #[] w (DrRet exD w) := by
  have HR : Hid (DrRet exD w (.returned (.slice (some ⟨w.heap.size, 0, none⟩) 2 2)) (w.alloc (.cells #[.int .i64 1, .int .i64 0, .int .i64 0, .int .i64 1, .int .i64 0, .slice none 0 0, .int .i64 10, .int .i64 0, .int .i64 0, .int .i64 50, .int .i64 3, .int .i64 1, .int .i64 0, .int .i64 5, .int .i64 5, .slice none 0 0, .int .i64 0, .int .i64 0, .int .i64 0, .int .i64 0] 27))) := Lib.hid (by
    refine ⟨_, 2, rfl, fun _ => ⟨w.heap.size, 0, rfl, by simp, fun j hj => ?_⟩, below_al _ _⟩
    have hj' : j < 2 := hj
    obtain rfl | rfl : j = 0 ∨ j = 1 := by omega
    · exact ⟨none, 0, ⟨by simp <;> rfl, by simp <;> rfl, by simp <;> rfl, by simp <;> rfl, by simp <;> rfl, by simp <;> rfl, by simp <;> rfl, by simp <;> rfl, by simp <;> rfl, by simp <;> rfl⟩, fun h => absurd h (by simp [exD])⟩
    · exact ⟨none, 0, ⟨by simp <;> rfl, by simp <;> rfl, by simp <;> rfl, by simp <;> rfl, by simp <;> rfl, by simp <;> rfl, by simp <;> rfl, by simp <;> rfl, by simp <;> rfl, by simp <;> rfl⟩, fun h => absurd h (by simp [exD])⟩)
  go_enter Try.func31, Try.ntmps31
  go_wp2
  go_ret
  exact HR.out
/-- four plates of three columns and two rows, returned -/
def Ex6 (V : Nat → List Int) (w : World) (e : Ending) (u : World) : Prop := ∃ (ad : Nat → Option Addr) (cp : Nat → Nat), e = .returned (.tuple #[.agg #[.int .i64 3, .int .i64 2, .slice (ad 0) 6 (cp 0), .int .i64 3, .int .i64 2, .slice (ad 1) 6 (cp 1), .int .i64 3, .int .i64 2, .slice (ad 2) 6 (cp 2), .int .i64 3, .int .i64 2, .slice (ad 3) 6 (cp 3)], .int .i64 0]) ∧ Ns4 u ad V ∧ Below w.heap.size w u
theorem ex6_of {ws hs : Nat → Int} {vs V : Nat → List Int} {w u : World} {e : Ending} {E : Int} (h : PlR ws hs vs E w e u) (hE : E = 0) (hW : ws = fun _ => 3) (hH : hs = fun _ => 2) (hV : ∀ i, i < 4 → vs i = V i) (hl : ∀ i, i < 4 → (V i).length = 6) : Ex6 V w e u := by
  obtain ⟨ad, cp, rfl, hN, -, hb⟩ := h
  subst hE hW hH
  refine ⟨ad, cp, ?_, fun i hi => by rw [← hV i hi]; exact hN i hi, hb⟩
  unfold pl4
  dsimp only
  rw [hV 0 (by omega), hV 1 (by omega), hV 2 (by omega), hV 3 (by omega), hl 0 (by omega), hl 1 (by omega), hl 2 (by omega), hl 3 (by omega)]
theorem paint_ex (da : Option Addr) (dc : Nat) (w : World) (hD : Drs w w.heap.size da exD) : Calls Try.prog 17 #[.int .i64 3, .int .i64 2, .slice da 2 dc] w (Ex6 exV1 w) :=
  (Paint_any 3 2 6 exD da dc w (fun _ => by decide) hD (by decide)).mono fun e u h => ex6_of h ex_E1 (by unfold pnW; rw [if_neg (by decide)]; unfold ovW; rw [if_pos (by decide)]) (by unfold pnH; rw [if_neg (by decide)]; unfold ovH; rw [if_pos (by decide)]) ex_V1 (by decide)
theorem over_ex (ad : Nat → Option Addr) (cp : Nat → Nat) (da : Option Addr) (dc : Nat) (w : World) (hN : Ns4 w ad exV1) (hD : Drs w w.heap.size da exS) : Calls Try.prog 21 #[.agg #[.int .i64 3, .int .i64 2, .slice (ad 0) 6 (cp 0), .int .i64 3, .int .i64 2, .slice (ad 1) 6 (cp 1), .int .i64 3, .int .i64 2, .slice (ad 2) 6 (cp 2), .int .i64 3, .int .i64 2, .slice (ad 3) 6 (cp 3)], .slice da 1 dc] w (Ex6 exV2 w) :=
  (Over_any (fun _ => 3) (fun _ => 2) ad cp exV1 exS da dc w hN (by decide) (fun i _ => by unfold I64; omega) (fun i _ => by unfold I64; omega) hD (by decide)).mono fun e u h => ex6_of h ex_E2 (by unfold ovW; rw [if_pos (by decide)]) (by unfold ovH; rw [if_pos (by decide)]) ex_V2 (by decide)
/-- empty plates, returned with error 2 -/
def Ex0 (w : World) (e : Ending) (u : World) : Prop := ∃ (ad : Nat → Option Addr) (cp : Nat → Nat), e = .returned (.tuple #[.agg #[.int .i64 0, .int .i64 0, .slice (ad 0) 0 (cp 0), .int .i64 0, .int .i64 0, .slice (ad 1) 0 (cp 1), .int .i64 0, .int .i64 0, .slice (ad 2) 0 (cp 2), .int .i64 0, .int .i64 0, .slice (ad 3) 0 (cp 3)], .int .i64 2]) ∧ Below w.heap.size w u
theorem paint_no (w : World) : Calls Try.prog 17 #[.int .i64 0, .int .i64 2, .slice none 0 0] w (Ex0 w) :=
  (Paint_any 0 2 0 [] none 0 w (fun h => absurd h (by decide)) (fun h => absurd h (by decide)) (by decide)).mono fun e u h => by
    obtain ⟨ad, cp, rfl, -, -, hb⟩ := h
    exact ⟨ad, cp, rfl, hb⟩
end Go.Proofs.Ytjclioakdmilmaa
