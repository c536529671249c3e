/- The contracts of math/bits.Mul64, num.valid and num.Cmp. -/
import Derived.Test.YthgdmcjahldihaaNumC
import Derived.Test.YthgdmcjahldihaaNumPlainE
import Derived.Lib.Mul64
import Derived.Laws.Bits64b
namespace Go.Proofs.Ythgdmcjahldihaa
open Go.RowKit Go.Lib
open Num
set_option linter.unusedVariables false

theorem m64mask (a : Nat) (ha : a < 18446744073709551616) : bits .and .u64 (a : Int) 4294967295 = ((a % 4294967296 : Nat) : Int) := by
  have h := bits_and_u64_nat a 4294967295 ha (by omega)
  have e : a &&& 4294967295 = a % 4294967296 := Nat.and_two_pow_sub_one_eq_mod a 32
  rw [e] at h
  exact h
theorem m64div (a : Nat) : (a : Int) / 4294967296 = ((a / 4294967296 : Nat) : Int) := by omega
theorem m64mul (a b : Nat) : (a : Int) * (b : Int) = ((a * b : Nat) : Int) := (Int.natCast_mul a b).symm
theorem m64add (a b : Nat) : (a : Int) + (b : Int) = ((a + b : Nat) : Int) := (Int.natCast_add a b).symm
theorem m64wrap (a : Nat) (ha : a < 18446744073709551616) : IntKind.u64.wrap (a : Int) = (a : Int) := by rw [IntKind.wrap_u64]; omega
theorem m64mod (a : Nat) : IntKind.u64.wrap (a : Int) = ((a % 18446744073709551616 : Nat) : Int) := by rw [IntKind.wrap_u64]; omega

set_option maxHeartbeats 1000000 in
theorem mul64_any (x y : Nat) (hx : x < 18446744073709551616) (hy : y < 18446744073709551616) (w : World) :
    Calls Try.prog 55 #[.int .u64 x, .int .u64 y] w fun e w' => e = .returned (.tuple #[.int .u64 ((x * y / 18446744073709551616 : Nat) : Int), .int .u64 ((x * y % 18446744073709551616 : Nat) : Int)]) ∧ w' = w := by
  obtain ⟨bd, bt, bw, hhi⟩ := Lib.mul64_hi x y hx hy
  have ba := Lib.half_mul_le (a := x / 4294967296) (b := y / 4294967296) (by omega) (by omega)
  have bb := Lib.half_mul_le (a := x / 4294967296) (b := y % 4294967296) (by omega) (by omega)
  have bc := Lib.half_mul_le (a := x % 4294967296) (b := y / 4294967296) (by omega) (by omega)
  have ba' : x / 4294967296 * (y / 4294967296) < 18446744073709551616 := by omega
  have bb' : x / 4294967296 * (y % 4294967296) < 18446744073709551616 := by omega
  have bc' : x % 4294967296 * (y / 4294967296) < 18446744073709551616 := by omega
  have bh1 : x / 4294967296 * (y / 4294967296) + (x / 4294967296 * (y % 4294967296) + x % 4294967296 * (y % 4294967296) / 4294967296) / 4294967296 < 18446744073709551616 := by omega
  have bh : x / 4294967296 * (y / 4294967296) + (x / 4294967296 * (y % 4294967296) + x % 4294967296 * (y % 4294967296) / 4294967296) / 4294967296 + ((x / 4294967296 * (y % 4294967296) + x % 4294967296 * (y % 4294967296) / 4294967296) % 4294967296 + x % 4294967296 * (y / 4294967296)) / 4294967296 < 18446744073709551616 := by omega
  go_enter Try.func55, Try.ntmps55
  go_wp2
  simp only [m64mask x hx, m64mask y hy, m64div, m64mul, m64add, m64wrap _ bd, m64wrap _ bb', m64wrap _ bt, m64mask _ bt, m64wrap _ bc', m64wrap _ bw, m64wrap _ ba', m64wrap _ bh1, m64wrap _ bh, m64mod (x * y)]
  rw [hhi]
  go_ret2
  exact ⟨rfl, rfl⟩

/-- the two words of a product -/
def hi64 (x y : Nat) : Nat := x * y / 18446744073709551616
def lo64 (x y : Nat) : Nat := x * y % 18446744073709551616
theorem mul64_w (x y : Nat) (hx : x < 18446744073709551616) (hy : y < 18446744073709551616) (w : World) :
    Calls Try.prog 55 #[.int .u64 x, .int .u64 y] w fun e w' => e = .returned (.tuple #[.int .u64 (hi64 x y : Int), .int .u64 (lo64 x y : Int)]) ∧ w' = w := mul64_any x y hx hy w
theorem size_same (n : Int) (w : World) (h1 : -9223372036854775808 ≤ n) (h2 : n ≤ 9223372036854775807) :
    Calls Try.prog 56 #[.int .i64 n] w fun e w' => e = .returned (.int .u64 n.natAbs) ∧ w' = w :=
  (size_any n w h1 h2).mono fun _ _ ⟨a, b⟩ => ⟨a, b.symm⟩
theorem ret_bool' {a b : Bool} (h : a = b) : Ending.returned (.bool a) = .returned (.bool b) := by rw [h]

theorem bcell' {W w1 : World} (hb : Below W.heap.size W w1) : (∀ b o, b < W.heap.size → w1.cell? ⟨b, o, none⟩ = W.cell? ⟨b, o, none⟩) ∧ (∀ b o, b < W.heap.size → w1.frozen? ⟨b, o, none⟩ = W.frozen? ⟨b, o, none⟩) :=
  ⟨fun b o h => hb.cell (p := ⟨b, o, none⟩) h, fun b o h => hb.frozen (p := ⟨b, o, none⟩) h⟩
theorem below_box' (w : World) (o : Obj) : Below w.heap.size w (w.alloc o) := (Below.refl _ _).alloc (Nat.le_refl _) _
theorem below_step' {w a b : World} (h : Below w.heap.size w a) (hb : Below a.heap.size a b) : Below w.heap.size w b := h.trans (hb.mono h.size)
set_option maxHeartbeats 400000 in
theorem valid_any (n d : Int) (w : World) (h1 : I64 n) (h2 : I64 d) :
    Calls Try.prog 54 #[.agg #[.int .i64 n, .int .i64 d]] w fun e w' => e = .returned (.bool (vld n d)) ∧ Below w.heap.size w w' := by
  unfold I64 at h1 h2
  obtain ⟨h11, h12⟩ := h1
  obtain ⟨h21, h22⟩ := h2
  by_cases hd : 0 < d
  · have HV : Hid (vld n d = ((Nat.gcd n.natAbs d.natAbs : Int) == 1)) := by apply Lib.hid; unfold vld gd; rw [decide_eq_true hd]; simp
    generalize vld n d = V at *
    go_enter Try.func54, Try.ntmps54
    go_wp2_with fail
    go_quiet (first | (go_at_call 56; exact Calls.quiet_of_same (size_same _ _ (by omega) (by omega))) | (go_at_call 61; exact Calls.quiet_of (divisor_any n.natAbs d.natAbs _ (by omega) (by omega))))
    go_wp2
    go_ret
    exact ⟨ret_bool' HV.out.symm, below_box_drewN _ _ _⟩
  · have hd' : decide (0 < d) = false := by simpa using hd
    have HV : Hid (vld n d = false) := by apply Lib.hid; unfold vld; rw [hd']; rfl
    generalize vld n d = V at *
    go_enter Try.func54, Try.ntmps54
    go_wp2_with fail
    go_quiet (fail)
    go_wp2
    go_ret
    exact ⟨ret_bool' HV.out.symm, below_box_drewN _ _ _⟩

theorem tri_words (NA NB : Nat) : (NA < NB ∧ (NA / 18446744073709551616 < NB / 18446744073709551616 ∨ (NA / 18446744073709551616 = NB / 18446744073709551616 ∧ NA % 18446744073709551616 < NB % 18446744073709551616))) ∨
    (NA = NB ∧ NA / 18446744073709551616 = NB / 18446744073709551616 ∧ NA % 18446744073709551616 = NB % 18446744073709551616) ∨
    (NB < NA ∧ (NB / 18446744073709551616 < NA / 18446744073709551616 ∨ (NA / 18446744073709551616 = NB / 18446744073709551616 ∧ NB % 18446744073709551616 < NA % 18446744073709551616))) := by omega
theorem two_boxes (w : World) (a0 a1 b0 b1 : Value) (t : TypeId) : let W := (w.alloc (.cells #[a0, a1] t)).alloc (.cells #[b0, b1] t)
    W.cell? ⟨w.heap.size, 0, none⟩ = some a0 ∧ W.cell? ⟨w.heap.size, 1, none⟩ = some a1 ∧ W.cell? ⟨w.heap.size + 1, 0, none⟩ = some b0 ∧ W.cell? ⟨w.heap.size + 1, 1, none⟩ = some b1 := by
  have h1 := World.cell?_alloc_past (w := w.alloc (.cells #[a0, a1] t)) (.cells #[b0, b1] t)
  refine ⟨?_, ?_, ?_, ?_⟩
  · rw [h1 _ _ (by simp)]; simp
  · rw [h1 _ _ (by simp)]; simp
  · have := World.cell?_alloc_new (w.alloc (.cells #[a0, a1] t)); simp
  · simp

set_option maxHeartbeats 1000000 in
theorem cmp_inv1 (an ad bn bd : Int) (w : World) (h1 : I64 an) (h2 : I64 ad) (hv : vld an ad = false) :
    Calls Try.prog 37 #[.agg #[.int .i64 an, .int .i64 ad], .agg #[.int .i64 bn, .int .i64 bd]] w fun e w' => e = .returned (.int .i64 0) ∧ Below w.heap.size w w' := by
  have HV := Lib.hid hv
  clear hv
  go_enter Try.func37, Try.ntmps37
  go_wp2_with fail
  refine (valid_any an ad _ h1 h2).mono ?_
  rintro e w1 ⟨rfl, hb1⟩
  rw [HV.out]
  have F1 := Lib.hid (below_step' (below_step' (below_box' w _) (below_box' _ _)) hb1)
  clear hb1
  go_wp2
  go_ret
  exact ⟨rfl, F1.out⟩
set_option maxHeartbeats 1000000 in
theorem cmp_inv2 (an ad bn bd : Int) (w : World) (h1 : I64 an) (h2 : I64 ad) (h3 : I64 bn) (h4 : I64 bd) (hv : vld an ad = true) (hv2 : vld bn bd = false) :
    Calls Try.prog 37 #[.agg #[.int .i64 an, .int .i64 ad], .agg #[.int .i64 bn, .int .i64 bd]] w fun e w' => e = .returned (.int .i64 0) ∧ Below w.heap.size w w' := by
  have HV := Lib.hid hv
  have HV2 := Lib.hid hv2
  clear hv hv2
  go_enter Try.func37, Try.ntmps37
  go_wp2_with fail
  refine (valid_any an ad _ h1 h2).mono ?_
  rintro e w1 ⟨rfl, hb1⟩
  rw [HV.out]
  have F1 := Lib.hid (below_step' (below_step' (below_box' w _) (below_box' _ _)) hb1)
  obtain ⟨hcl, hfz⟩ := bcell' hb1
  clear hb1
  go_wp2_with fail
  refine (valid_any bn bd _ h3 h4).mono ?_
  rintro e w2 ⟨rfl, hb2⟩
  rw [HV2.out]
  have F2 := Lib.hid (below_step' F1.out hb2)
  clear hb2 hcl hfz
  go_wp2
  go_ret
  exact ⟨rfl, F2.out⟩
set_option maxHeartbeats 1000000 in
theorem cmp_sgn (an ad bn bd : Int) (w : World) (h1 : I64 an) (h2 : I64 ad) (h3 : I64 bn) (h4 : I64 bd) (hv : vld an ad = true) (hv2 : vld bn bd = true) (hs : ¬ (an < 0 ↔ bn < 0)) :
    Calls Try.prog 37 #[.agg #[.int .i64 an, .int .i64 ad], .agg #[.int .i64 bn, .int .i64 bd]] w fun e w' => e = .returned (.int .i64 (if an < 0 then -1 else 1)) ∧ Below w.heap.size w w' := by
  have HV := Lib.hid hv
  have HV2 := Lib.hid hv2
  clear hv hv2
  rcases Int.lt_or_le an 0 with ha | ha
  · have ha' : decide (an < 0) = true := by simpa using ha
    have hb' : decide (bn < 0) = false := by simp; omega
    have HR : Hid ((if an < 0 then (-1 : Int) else 1) = -1) := Lib.hid (if_pos ha)
    clear hs ha
    rw [HR.out]
    go_enter Try.func37, Try.ntmps37
    go_wp2_with fail
    refine (valid_any an ad _ h1 h2).mono ?_
    rintro e w1 ⟨rfl, hb1⟩
    rw [HV.out]
    have B1 := Lib.hid hb1
    have F1 := Lib.hid (below_step' (below_step' (below_box' w _) (below_box' _ _)) hb1)
    obtain ⟨hcl, hfz⟩ := bcell' hb1
    clear hb1
    go_wp2_with fail
    refine (valid_any bn bd _ h3 h4).mono ?_
    rintro e w2 ⟨rfl, hb2⟩
    rw [HV2.out]
    have F2 := Lib.hid (below_step' F1.out hb2)
    have B2 := Lib.hid (below_step' B1.out hb2)
    clear hb2 hcl hfz
    obtain ⟨hcl, hfz⟩ := bcell' B2.out
    go_wp2
    go_ret
    exact ⟨rfl, F2.out⟩
  · have ha' : decide (an < 0) = false := by simp; omega
    have hb' : decide (bn < 0) = true := by simp; omega
    have HR : Hid ((if an < 0 then (-1 : Int) else 1) = 1) := Lib.hid (if_neg (by omega))
    clear hs ha
    rw [HR.out]
    go_enter Try.func37, Try.ntmps37
    go_wp2_with fail
    refine (valid_any an ad _ h1 h2).mono ?_
    rintro e w1 ⟨rfl, hb1⟩
    rw [HV.out]
    have B1 := Lib.hid hb1
    have F1 := Lib.hid (below_step' (below_step' (below_box' w _) (below_box' _ _)) hb1)
    obtain ⟨hcl, hfz⟩ := bcell' hb1
    clear hb1
    go_wp2_with fail
    refine (valid_any bn bd _ h3 h4).mono ?_
    rintro e w2 ⟨rfl, hb2⟩
    rw [HV2.out]
    have F2 := Lib.hid (below_step' F1.out hb2)
    have B2 := Lib.hid (below_step' B1.out hb2)
    clear hb2 hcl hfz
    obtain ⟨hcl, hfz⟩ := bcell' B2.out
    go_wp2
    go_ret
    exact ⟨rfl, F2.out⟩

set_option maxRecDepth 100000 in
set_option maxHeartbeats 1000000 in
theorem cmp_mul (an ad bn bd : Int) (w : World) (h1 : I64 an) (h2 : I64 ad) (h3 : I64 bn) (h4 : I64 bd) (hv : vld an ad = true) (hv2 : vld bn bd = true) (hs : an < 0 ↔ bn < 0) :
    Calls Try.prog 37 #[.agg #[.int .i64 an, .int .i64 ad], .agg #[.int .i64 bn, .int .i64 bd]] w fun e w' => e = .returned (.int .i64 (sgnI (an * bd - bn * ad))) ∧ Below w.heap.size w w' := by
  have HE := Lib.hid (cmp_same (vld_pos hv) (vld_pos hv2) hs)
  have HV := Lib.hid hv
  have HV2 := Lib.hid hv2
  have H1 := Lib.hid h1
  have H2 := Lib.hid h2
  have H3 := Lib.hid h3
  have H4 := Lib.hid h4
  unfold I64 at h1 h2 h3 h4
  obtain ⟨h11, h12⟩ := h1
  obtain ⟨h21, h22⟩ := h2
  obtain ⟨h31, h32⟩ := h3
  obtain ⟨h41, h42⟩ := h4
  have HS := Lib.hid hs
  clear hv hv2 hs
  generalize sgnI (an * bd - bn * ad) = R at *
  rcases (show (decide (an < 0) = true ∧ decide (bn < 0) = true) ∨ (decide (an < 0) = false ∧ decide (bn < 0) = false) by
    have := HS.out; by_cases e : an < 0
    · left; exact ⟨by simpa using e, by simpa using this.1 e⟩
    · right; exact ⟨by simpa using e, by simp; omega⟩) with ⟨da, db⟩ | ⟨da, db⟩
  all_goals
    go_enter Try.func37, Try.ntmps37
    go_wp2_with fail
    refine (valid_any an ad _ H1.out H2.out).mono ?_
    rintro e w1 ⟨rfl, hb1⟩
    rw [HV.out]
    have B1 := Lib.hid hb1
    have F1 := Lib.hid (below_step' (below_step' (below_box' w _) (below_box' _ _)) hb1)
    obtain ⟨hcl, hfz⟩ := bcell' hb1
    clear hb1
    go_wp2_with fail
    refine (valid_any bn bd _ H3.out H4.out).mono ?_
    rintro e w2 ⟨rfl, hb2⟩
    rw [HV2.out]
    have F2 := Lib.hid (below_step' F1.out hb2)
    have B2 := Lib.hid (below_step' B1.out hb2)
    clear hb2 hcl hfz B1 F1
    have hcl := (bcell' B2.out).1
    obtain ⟨q0, q1, q2, q3⟩ := two_boxes w (.int .i64 an) (.int .i64 ad) (.int .i64 bn) (.int .i64 bd) 44
    have c0 : w2.cell? ⟨w.heap.size, 0, none⟩ = some (.int .i64 an) := by rw [hcl _ _ (by simp; omega)]; exact q0
    have c1 : w2.cell? ⟨w.heap.size, 1, none⟩ = some (.int .i64 ad) := by rw [hcl _ _ (by simp; omega)]; exact q1
    have c2 : w2.cell? ⟨w.heap.size + 1, 0, none⟩ = some (.int .i64 bn) := by rw [hcl _ _ (by simp)]; exact q2
    have c3 : w2.cell? ⟨w.heap.size + 1, 1, none⟩ = some (.int .i64 bd) := by rw [hcl _ _ (by simp)]; exact q3
    clear hcl q0 q1 q2 q3 B2
    go_wp2_with fail
    go_quiet (first | (go_at_call 56; exact Calls.quiet_of_same (size_same _ _ (by omega) (by omega))) | (go_at_call 55; exact Calls.quiet_of_same (mul64_w _ _ (by omega) (by omega) _)))
    have d0 : (w2.drewN nq).cell? ⟨w.heap.size, 0, none⟩ = some (.int .i64 an) := c0
    have d1 : (w2.drewN nq).cell? ⟨w.heap.size, 1, none⟩ = some (.int .i64 ad) := c1
    have d2 : (w2.drewN nq).cell? ⟨w.heap.size + 1, 0, none⟩ = some (.int .i64 bn) := c2
    have d3 : (w2.drewN nq).cell? ⟨w.heap.size + 1, 1, none⟩ = some (.int .i64 bd) := c3
    have F3 : Hid (Below w.heap.size w (w2.drewN nq)) := Lib.hid (F2.out.trans ⟨rfl, rfl, rfl, Nat.le_refl _, fun _ _ => rfl⟩)
    clear c0 c1 c2 c3
    generalize w2.drewN nq = w3 at *
    go_wp2_with fail
    go_quiet (first | (go_at_call 56; exact Calls.quiet_of_same (size_same _ _ (by omega) (by omega))) | (go_at_call 55; exact Calls.quiet_of_same (mul64_w _ _ (by omega) (by omega) _)))
    have F4 : Hid (Below w.heap.size w (w3.drewN nq)) := Lib.hid (F3.out.trans ⟨rfl, rfl, rfl, Nat.le_refl _, fun _ _ => rfl⟩)
    have TR := Lib.hid (tri_words (an.natAbs * bd.natAbs) (bn.natAbs * ad.natAbs))
    have e1 : an.natAbs * bd.natAbs / 18446744073709551616 = hi64 an.natAbs bd.natAbs := rfl
    have e2 : an.natAbs * bd.natAbs % 18446744073709551616 = lo64 an.natAbs bd.natAbs := rfl
    have e3 : bn.natAbs * ad.natAbs / 18446744073709551616 = hi64 bn.natAbs ad.natAbs := rfl
    have e4 : bn.natAbs * ad.natAbs % 18446744073709551616 = lo64 bn.natAbs ad.natAbs := rfl
    rw [e1, e2, e3, e4] at TR
    clear e1 e2 e3 e4
    have G1 := Lib.hid (fun h => sgn_lt (a := an.natAbs * bd.natAbs) (b := bn.natAbs * ad.natAbs) h)
    have G2 := Lib.hid (fun h => sgn_eq (a := an.natAbs * bd.natAbs) (b := bn.natAbs * ad.natAbs) h)
    have G3 := Lib.hid (fun h => sgn_gt (a := an.natAbs * bd.natAbs) (b := bn.natAbs * ad.natAbs) h)
    generalize an.natAbs * bd.natAbs = NA at *
    generalize bn.natAbs * ad.natAbs = NB at *
    generalize hi64 an.natAbs bd.natAbs = pa at *
    generalize lo64 an.natAbs bd.natAbs = qa at *
    generalize hi64 bn.natAbs ad.natAbs = pb at *
    generalize lo64 bn.natAbs ad.natAbs = qb at *
    have hE := HE.out
    rcases TR.out with ⟨hlt, hx | ⟨hx, hy⟩⟩ | ⟨hlt, hx, hy⟩ | ⟨hlt, hx | ⟨hx, hy⟩⟩
    all_goals
      first | rw [G1.out hlt] at hE | rw [G2.out hlt] at hE | rw [G3.out hlt] at hE
      first | rw [if_pos (of_decide_eq_true da)] at hE | rw [if_neg (of_decide_eq_false da)] at hE
      have HR := Lib.hid hE
      clear hE
    · have z1 : ((pa : Int) == (pb : Int)) = false := by simp; omega
      have z2 : decide ((pb : Int) < (pa : Int)) = false := by simp; omega
      have z3 : (pa == pb) = false := by simp; omega
      have z4 : decide (pb < pa) = false := by simp; omega
      go_wp2
      go_ret
      exact ⟨ret_int (by have := HR.out; omega), F4.out⟩
    · subst hx
      have z1 : ((qa : Int) == (qb : Int)) = false := by simp; omega
      have z2 : decide ((qb : Int) < (qa : Int)) = false := by simp; omega
      have z3 : (qa == qb) = false := by simp; omega
      have z4 : decide (qb < qa) = false := by simp; omega
      go_wp2
      go_ret
      exact ⟨ret_int (by have := HR.out; omega), F4.out⟩
    · subst hx
      subst hy
      go_wp2
      go_ret
      exact ⟨ret_int (by have := HR.out; omega), F4.out⟩
    · have z1 : ((pa : Int) == (pb : Int)) = false := by simp; omega
      have z2 : decide ((pb : Int) < (pa : Int)) = true := by simp; omega
      have z3 : (pa == pb) = false := by simp; omega
      have z4 : decide (pb < pa) = true := by simp; omega
      go_wp2
      go_ret
      exact ⟨ret_int (by have := HR.out; omega), F4.out⟩
    · subst hx
      have z1 : ((qa : Int) == (qb : Int)) = false := by simp; omega
      have z2 : decide ((qb : Int) < (qa : Int)) = true := by simp; omega
      have z3 : (qa == qb) = false := by simp; omega
      have z4 : decide (qb < qa) = true := by simp; omega
      go_wp2
      go_ret
      exact ⟨ret_int (by have := HR.out; omega), F4.out⟩
theorem cmp_any (an ad bn bd : Int) (w : World) (h1 : I64 an) (h2 : I64 ad) (h3 : I64 bn) (h4 : I64 bd) :
    Calls Try.prog 37 #[.agg #[.int .i64 an, .int .i64 ad], .agg #[.int .i64 bn, .int .i64 bd]] w fun e w' => e = .returned (.int .i64 (cmpF an ad bn bd)) ∧ Below w.heap.size w w' := by
  unfold cmpF
  cases hv : vld an ad
  · rw [if_neg (by simp)]; exact cmp_inv1 an ad bn bd w h1 h2 hv
  · cases hv2 : vld bn bd
    · rw [if_neg (by simp)]; exact cmp_inv2 an ad bn bd w h1 h2 h3 h4 hv hv2
    · rw [if_pos (by simp)]
      by_cases hs : an < 0 ↔ bn < 0
      · exact cmp_mul an ad bn bd w h1 h2 h3 h4 hv hv2 hs
      · rw [cmp_sign (vld_pos hv) (vld_pos hv2) hs]; exact cmp_sgn an ad bn bd w h1 h2 h3 h4 hv hv2 hs
end Go.Proofs.Ythgdmcjahldihaa
