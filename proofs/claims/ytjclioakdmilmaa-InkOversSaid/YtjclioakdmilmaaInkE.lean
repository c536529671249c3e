/- The contract of the reference's bare. -/
import Derived.Test.YtjclioakdmilmaaInkD
import Derived.Test.YtjclioakdmilmaaInkPlainB
namespace Go.Proofs.Ytjclioakdmilmaa
open Go.RowKit
open Num Ink
set_option linter.unusedVariables false
/-- an operation -/
def dw (k x0 y0 x1 y1 : Int) (s : Value) (a b c d : Int) : Value := .agg #[.int .i64 k, .int .i64 x0, .int .i64 y0, .int .i64 x1, .int .i64 y1, s, .int .i64 a, .int .i64 b, .int .i64 c, .int .i64 d]
theorem eq25 (a b c d a' b' c' d' : Int) (w : World) : (Op.equalIn 10000 25 (.agg #[.int .i64 a, .int .i64 b, .int .i64 c, .int .i64 d]) (.agg #[.int .i64 a', .int .i64 b', .int .i64 c', .int .i64 d'])).run Try.prog w = .ok ((a == a' && b == b') && (c == c' && d == d')) w := by
  have u3 := Try.underlying3
  have a3 := Try.isAgg3
  have z3 := Try.sizeOf3
  rw [show (10000 : Nat) = 9999 + 1 from rfl, Op.equalIn]
  simp only [Sem.run_bind, run_underlying Try.underlying25, Result.andThen_ok]
  simp only [Std.Legacy.Range.forIn_eq_forIn_range', Std.Legacy.Range.size, Nat.sub_zero, Nat.add_sub_cancel, Nat.div_one, List.range'_succ, List.range'_zero, List.forIn_cons, List.forIn_nil]
  go_simp
  by_cases h1 : a = a' <;> by_cases h2 : b = b' <;> by_cases h3 : c = c' <;> by_cases h4 : d = d' <;> simp [h1, h2, h3, h4]
theorem eq25z (a b c d : Int) (w : World) : (Op.equalIn 10000 25 (.agg #[.int .i64 a, .int .i64 b, .int .i64 c, .int .i64 d]) (.agg #[.int .i64 0, .int .i64 0, .int .i64 0, .int .i64 0])).run Try.prog w = .ok (z4 a b c d) w := by
  rw [eq25]
  congr 1
set_option maxRecDepth 100000 in
set_option maxHeartbeats 4000000 in
theorem rbare_any (k x0 y0 x1 y1 : Int) (p : Option Addr) (n cap : Nat) (a b c d : Int) (w : World) (hk : -9223372036854775808 ≤ k ∧ k ≤ 9223372036854775807) :
    Calls Try.prog 27 #[dw k x0 y0 x1 y1 (.slice p n cap) a b c d] w fun e w' => e = .returned (.bool (bareB k (z4 x0 y0 x1 y1) n (z4 a b c d))) ∧ Below w.heap.size w w' := by
  have G := Lib.hid (below_al w (.cells #[.int .i64 k, .int .i64 x0, .int .i64 y0, .int .i64 x1, .int .i64 y1, .slice p n cap, .int .i64 a, .int .i64 b, .int .i64 c, .int .i64 d] 27))
  have HR : Hid (bareB k (z4 x0 y0 x1 y1) n (z4 a b c d) = if k = 1 then decide (n = 0) else if k = 2 then z4 x0 y0 x1 y1 && decide (0 < n) else decide (n = 0) && z4 a b c d) := Lib.hid rfl
  generalize bareB k (z4 x0 y0 x1 y1) n (z4 a b c d) = R at *
  have HZ := Lib.hid (z4_cases x0 y0 x1 y1)
  have HI := Lib.hid (z4_cases a b c d)
  have E25 := Lib.hid (fun v => eq25z a b c d v)
  generalize z4 x0 y0 x1 y1 = bz at *
  generalize z4 a b c d = iz at *
  unfold dw
  by_cases k1 : k = 1
  · have h := HR.out
    rw [if_pos k1] at h
    subst k1
    by_cases hn : n = 0
    · have e : ((n : Int) == 0) = true := by simpa using hn
      rw [decide_eq_true hn] at h
      subst h
      clear HR HZ HI hk hn
      go_enter Try.func27, Try.ntmps27
      go_wp2
      go_ret
      exact ⟨rfl, G.out⟩
    · have e : ((n : Int) == 0) = false := by simpa using hn
      rw [decide_eq_false hn] at h
      subst h
      clear HR HZ HI hk hn
      go_enter Try.func27, Try.ntmps27
      go_wp2
      go_ret
      exact ⟨rfl, G.out⟩
  · by_cases k2 : k = 2
    · have h := HR.out
      rw [if_neg k1, if_pos k2] at h
      subst k2
      clear k1 HR HI hk
      rcases HZ.out with ⟨rfl, rfl, rfl, rfl, rfl⟩ | ⟨rfl, h0⟩
      · clear HZ
        rw [Bool.true_and] at h
        subst h
        go_enter Try.func27, Try.ntmps27
        go_wp2
        go_ret
        exact ⟨rfl, G.out⟩
      · clear HZ
        rw [Bool.false_and] at h
        subst h
        rcases h0 with h0 | ⟨rfl, h0⟩ | ⟨rfl, rfl, h0⟩ | ⟨rfl, rfl, rfl, h0⟩
        all_goals
          go_enter Try.func27, Try.ntmps27
          go_wp2
          go_ret
          exact ⟨rfl, G.out⟩
    · have h := HR.out
      rw [if_neg k1, if_neg k2] at h
      have e1 : (k == 1) = false := by simpa using k1
      have e2 : (k == 2) = false := by simpa using k2
      clear HR HZ hk e1 e2
      by_cases hn : n = 0
      · have e : ((n : Int) == 0) = true := by simpa using hn
        rw [decide_eq_true hn, Bool.true_and] at h
        clear e
        subst hn
        have E := E25.out
        subst h
        clear HI E25
        go_enter Try.func27, Try.ntmps27
        go_wp2
        go_ret
        exact ⟨rfl, G.out⟩
      · have e : ((n : Int) == 0) = false := by simpa using hn
        rw [decide_eq_false hn, Bool.false_and] at h
        subst h
        clear hn HI
        go_enter Try.func27, Try.ntmps27
        go_wp2
        go_ret
        exact ⟨rfl, G.out⟩
end Go.Proofs.Ytjclioakdmilmaa
