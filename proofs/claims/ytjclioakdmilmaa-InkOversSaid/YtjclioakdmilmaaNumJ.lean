/- The contracts of math/bits.Len64, LeadingZeros64 and Div64, and of num.MulDiv, for all ints. -/
import Derived.Test.YtjclioakdmilmaaNumF
import Derived.Test.YtjclioakdmilmaaNumPlainG
import Derived.Lib.Strings
import Derived.Lib.Slices
import Derived.Lib.Small
import Derived.Lib.Walk
import Derived.Lib.BitFns
import Derived.Lib.ItoaNum
import Derived.Deep.Light
namespace Go.Proofs.Ytjclioakdmilmaa
open Go.RowKit
open Num
set_option linter.unusedVariables false

set_option maxRecDepth 100000 in
theorem l8_size : (Lib.len8tab.size : Int) = 256 := by
  have : Lib.len8tab.size = 256 := by decide
  omega
theorem l8_add (k a b : Nat) (hk : k ≤ 56) (ha : a ≤ 8) (hb : b = k + a) : wrap64 ((k : Int) + wrap64 (a : Int)) = (b : Int) := by
  unfold wrap64
  omega
theorem l8_wrap (a : Nat) (ha : a ≤ 8) : wrap64 (wrap64 (a : Int)) = (a : Int) := by
  unfold wrap64
  omega
theorem l8_one (a : Nat) (ha : a ≤ 8) : wrap64 (a : Int) = (a : Int) := by
  unfold wrap64
  omega
theorem l8_get (y : Int) (h : y.toNat < Lib.len8tab.size) : ((Lib.len8tab[y.toNat]'h).toNat : Int) = Lib.len8 y := by
  unfold Lib.len8
  rw [getElem?_pos Lib.len8tab y.toNat h]
  rfl
set_option maxHeartbeats 32000000 in
set_option maxRecDepth 1000000 in
theorem len64_any (x : Int) (w : World) (h0 : 0 ≤ x) (h1 : x ≤ 18446744073709551615) :
    Calls Try.prog 50 #[.int .u64 x] w fun e w' => e = .returned (.int .i64 (Lib.bitLen x.toNat)) ∧ w' = w := by
  go_enter Try.func50, Try.ntmps50
  go_wp2
  all_goals first
    | (go_ret; refine ⟨congrArg Ending.returned (congrArg (Value.int IntKind.i64) ?_), rfl⟩; go_light)
    | (exfalso
       go_light
       have hs := l8_size
       omega)
  all_goals first
    | (rw [l8_get (x / 4294967296 / 65536 / 256) _, Lib.len8_of (x / 4294967296 / 65536 / 256) (by omega) (by omega)]
       have e : (x / 4294967296 / 65536 / 256).toNat = x.toNat / 72057594037927936 := by omega
       have l := Lib.bitLen_le8' (x / 4294967296 / 65536 / 256) (by omega) (by omega)
       have s := Lib.bitLen_shift56 x.toNat (by omega) (by omega)
       rw [e] at l ⊢
       exact l8_add 56 _ _ (by decide) l s)
    | (rw [l8_get (x / 4294967296 / 65536) _, Lib.len8_of (x / 4294967296 / 65536) (by omega) (by omega)]
       have e : (x / 4294967296 / 65536).toNat = x.toNat / 281474976710656 := by omega
       have l := Lib.bitLen_le8' (x / 4294967296 / 65536) (by omega) (by omega)
       have s := Lib.bitLen_shift48 x.toNat (by omega) (by omega)
       rw [e] at l ⊢
       exact l8_add 48 _ _ (by decide) l s)
    | (rw [l8_get (x / 4294967296 / 256) _, Lib.len8_of (x / 4294967296 / 256) (by omega) (by omega)]
       have e : (x / 4294967296 / 256).toNat = x.toNat / 1099511627776 := by omega
       have l := Lib.bitLen_le8' (x / 4294967296 / 256) (by omega) (by omega)
       have s := Lib.bitLen_shift40 x.toNat (by omega) (by omega)
       rw [e] at l ⊢
       exact l8_add 40 _ _ (by decide) l s)
    | (rw [l8_get (x / 4294967296) _, Lib.len8_of (x / 4294967296) (by omega) (by omega)]
       have e : (x / 4294967296).toNat = x.toNat / 4294967296 := by omega
       have l := Lib.bitLen_le8' (x / 4294967296) (by omega) (by omega)
       have s := Lib.bitLen_shift32 x.toNat (by omega) (by omega)
       rw [e] at l ⊢
       exact l8_add 32 _ _ (by decide) l s)
    | (rw [l8_get (x / 65536 / 256) _, Lib.len8_of (x / 65536 / 256) (by omega) (by omega)]
       have e : (x / 65536 / 256).toNat = x.toNat / 16777216 := by omega
       have l := Lib.bitLen_le8' (x / 65536 / 256) (by omega) (by omega)
       have s := Lib.bitLen_shift24 x.toNat (by omega) (by omega)
       rw [e] at l ⊢
       exact l8_add 24 _ _ (by decide) l s)
    | (rw [l8_get (x / 65536) _, Lib.len8_of (x / 65536) (by omega) (by omega)]
       have e : (x / 65536).toNat = x.toNat / 65536 := by omega
       have l := Lib.bitLen_le8' (x / 65536) (by omega) (by omega)
       have s := Lib.bitLen_shift16 x.toNat (by omega) (by omega)
       rw [e] at l ⊢
       exact l8_add 16 _ _ (by decide) l s)
    | (rw [l8_get (x / 256) _, Lib.len8_of (x / 256) (by omega) (by omega)]
       have e : (x / 256).toNat = x.toNat / 256 := by omega
       have l := Lib.bitLen_le8' (x / 256) (by omega) (by omega)
       have s := Lib.bitLen_shift8 x.toNat (by omega) (by omega)
       rw [e] at l ⊢
       exact l8_add 8 _ _ (by decide) l s)
    | (rw [l8_get x _, Lib.len8_of x (by omega) (by omega)]
       have l := Lib.bitLen_le8' x (by omega) (by omega)
       first | exact l8_wrap _ l | exact l8_one _ l)
theorem bitLen_b (y : Nat) (h0 : y ≠ 0) (h : y < 18446744073709551616) : ∃ s : Nat, s ≤ 63 ∧ 64 - (Lib.bitLen y : Int) = (s : Int) ∧ 9223372036854775808 ≤ y * 2 ^ s ∧ y * 2 ^ s < 18446744073709551616 := by
  obtain ⟨h1, h2, h3⟩ := Lib.bitLenAux_bounds 64 y h h0
  have h4 : Lib.bitLen y ≤ 64 := Lib.bitLen_le y 64 (by omega) h
  have e : Lib.bitLen y = Lib.bitLenAux 64 y := rfl
  rw [← e] at h1 h2 h3
  generalize Lib.bitLen y = L at *
  refine ⟨64 - L, by omega, by omega, ?_, ?_⟩
  · have : (9223372036854775808 : Nat) = 2 ^ (L - 1) * 2 ^ (64 - L) := by rw [← Nat.pow_add, show L - 1 + (64 - L) = 63 by omega]
    rw [this]; exact Nat.mul_le_mul_right _ h2
  · have : (18446744073709551616 : Nat) = 2 ^ L * 2 ^ (64 - L) := by rw [← Nat.pow_add, show L + (64 - L) = 64 by omega]
    rw [this]; exact Nat.mul_lt_mul_of_pos_right h3 (Nat.pow_pos (by omega))
set_option maxHeartbeats 400000 in
theorem lz64_any (y : Nat) (w : World) (h1 : y < 18446744073709551616) : Calls Try.prog 49 #[.int .u64 y] w fun e w' => e = .returned (.int .i64 (64 - (Lib.bitLen y : Int))) ∧ w = w' := by
  have h4 : Lib.bitLen y ≤ 64 := Lib.bitLen_le y 64 (by omega) h1
  go_enter Try.func49, Try.ntmps49
  go_wp2_with fail
  refine (len64_any y _ (by omega) (by omega)).mono ?_
  rintro e w' ⟨rfl, rfl⟩
  have e1 : ((y : Int)).toNat = y := by omega
  rw [e1]
  clear e1
  have h5 : (Lib.bitLen y : Int) ≤ 64 := by omega
  go_wp2
  go_ret
  exact ⟨rfl, rfl⟩
set_option maxRecDepth 100000 in
set_option maxHeartbeats 1000000 in
theorem div64_low (lo y : Nat) (w : World) (hy : 0 < y) (h2 : y < 18446744073709551616) (h3 : lo < 18446744073709551616) :
    Calls Try.prog 47 #[.int .u64 0, .int .u64 lo, .int .u64 y] w fun e w' => e = .returned (.tuple #[.int .u64 (lo / y : Nat), .int .u64 (lo % y : Nat)]) ∧ ∃ n, w' = w.drewN n := by
  have z1 : ((y : Int) == 0) = false := by simp; omega
  have z2 : decide ((y : Int) ≤ 0) = false := by simp; omega
  have z3 : ((y : Int) = 0) = False := by simp; omega
  have hl : lo / y < 18446744073709551616 := by have := Nat.div_le_self lo y; omega
  have z4 : IntKind.u64.wrap ((lo : Int) / (y : Int)) = ((lo / y : Nat) : Int) := by
    rw [← Int.natCast_ediv]; generalize lo / y = z at *; exact IntWalk.u64_in _ (by omega)
  have z5 : (lo : Int) % (y : Int) = ((lo % y : Nat) : Int) := (Int.natCast_emod _ _).symm
  generalize lo / y = q at *
  generalize lo % y = r at *
  have Z5 := Lib.hid z5
  clear z5
  go_enter Try.func47, Try.ntmps47
  go_wp2_with fail
  go_quiet (fail)
  go_wp2
  go_ret2
  exact ⟨ret_two rfl Z5.out, nq, rfl⟩
theorem and32 (a : Nat) (ha : a < 18446744073709551616) : bits .and .u64 (a : Int) 4294967295 = ((a % 4294967296 : Nat) : Int) := m64mask a ha
theorem or_high (hi lo s : Nat) (hs : s ≤ 63) (hh : hi * 2 ^ s < 18446744073709551616) (hl : lo < 18446744073709551616) :
    bits .or .u64 (IntKind.u64.wrap ((hi : Int) * 2 ^ s)) ((lo : Int) / 2 ^ (64 - s)) = ((hi * 2 ^ s + lo / 2 ^ (64 - s) : Nat) : Int) := by
  have e1 : ((2 : Int) ^ s) = ((2 ^ s : Nat) : Int) := by push_cast; rfl
  have e2 : ((2 : Int) ^ (64 - s)) = ((2 ^ (64 - s) : Nat) : Int) := by push_cast; rfl
  have e3 : IntKind.u64.wrap ((hi : Int) * 2 ^ s) = ((hi * 2 ^ s : Nat) : Int) := by
    rw [e1, ← Int.natCast_mul]; exact m64wrap _ hh
  have e4 : (lo : Int) / 2 ^ (64 - s) = ((lo / 2 ^ (64 - s) : Nat) : Int) := by rw [e2, ← Int.natCast_ediv]
  have hp : (18446744073709551616 : Nat) = 2 ^ (64 - s) * 2 ^ s := by rw [← Nat.pow_add, show 64 - s + s = 64 by omega]
  have hlt : lo / 2 ^ (64 - s) < 2 ^ s := by
    rw [Nat.div_lt_iff_lt_mul (Nat.pow_pos (by omega)), Nat.mul_comm, ← hp]; exact hl
  rw [e3, e4, bits_or_u64_nat _ _ hh (by have := Nat.div_le_self lo (2 ^ (64 - s)); omega)]
  congr 1
  rw [Nat.mul_comm hi, Nat.two_pow_add_eq_or_of_lt hlt]
theorem shl_in (a s : Nat) : IntKind.u64.wrap ((a : Int) * 2 ^ s) = ((a * 2 ^ s % 18446744073709551616 : Nat) : Int) := by
  have e1 : ((2 : Int) ^ s) = ((2 ^ s : Nat) : Int) := by push_cast; rfl
  rw [e1, ← Int.natCast_mul]; exact m64mod _
theorem un_in {U d t Y L : Nat} (h : t * Y + L = U * 4294967296 + d) (hL : L < Y) (hY : Y < 18446744073709551616) :
    IntKind.u64.wrap (IntKind.u64.wrap (IntKind.u64.wrap ((U : Int) * 4294967296) + (d : Int)) - IntKind.u64.wrap ((t : Int) * (Y : Int))) = (L : Int) := by
  obtain ⟨T, hT⟩ : ∃ T, t * Y = T := ⟨_, rfl⟩
  rw [hT] at h
  have e : (t : Int) * (Y : Int) = (T : Int) := by rw [← Int.natCast_mul, hT]
  rw [e]
  clear e hT
  simp only [IntKind.wrap_u64]
  omega
theorem div_in2 (a b : Nat) (h : a < 18446744073709551616) : IntKind.u64.wrap ((a : Int) / (b : Int)) = ((a / b : Nat) : Int) := by
  rw [← Int.natCast_ediv]; exact m64wrap _ (by have := Nat.div_le_self a b; omega)
theorem mul_in2 (a b : Nat) (h : a < 18446744073709551616) : IntKind.u64.wrap (((a / b : Nat) : Int) * (b : Int)) = ((a / b * b : Nat) : Int) := by
  rw [← Int.natCast_mul]; exact m64wrap _ (by have := Nat.div_mul_le_self a b; omega)
theorem left_lt (a b : Nat) (h0 : 0 < b) (h : b < 4294967296) : a - a / b * b < 4294967296 ∧ a / b * b ≤ a := by
  have h1 := Nat.div_add_mod a b
  have h2 := Nat.mod_lt a h0
  rw [Nat.mul_comm] at h1
  omega
theorem cast_quo {a b h l y : Nat} (e : a * 4294967296 + b = (h * 18446744073709551616 + l) / y) : (a : Int) * 4294967296 + (b : Int) = ((h : Int) * 18446744073709551616 + (l : Int)) / (y : Int) := by
  have e1 : (a : Int) * 4294967296 + (b : Int) = ((a * 4294967296 + b : Nat) : Int) := by rw [Int.natCast_add, Int.natCast_mul]; rfl
  have e2 : (h : Int) * 18446744073709551616 + (l : Int) = ((h * 18446744073709551616 + l : Nat) : Int) := by rw [Int.natCast_add, Int.natCast_mul]; rfl
  rw [e1, e2, e, Int.natCast_ediv]
theorem cast_rem {r s h l y : Nat} (e : r / 2 ^ s = (h * 18446744073709551616 + l) % y) : (r : Int) / 2 ^ s = ((h : Int) * 18446744073709551616 + (l : Int)) % (y : Int) := by
  have e1 : ((2 : Int) ^ s) = ((2 ^ s : Nat) : Int) := by push_cast; rfl
  have e2 : (h : Int) * 18446744073709551616 + (l : Int) = ((h * 18446744073709551616 + l : Nat) : Int) := by rw [Int.natCast_add, Int.natCast_mul]; rfl
  rw [e1, e2, ← Int.natCast_ediv, e, Int.natCast_emod]
theorem prod_lt {a b : Nat} (ha : a < 4294967296) (hb : b < 4294967296) : a * b < 18446744073709551616 := by
  have := Nat.mul_le_mul (show a ≤ 4294967295 by omega) (show b ≤ 4294967295 by omega)
  omega
theorem sum_in {r d : Nat} (hr : r < 4294967296) (hd : d < 4294967296) : IntKind.u64.wrap (IntKind.u64.wrap (4294967296 * (r : Int)) + (d : Int)) = 4294967296 * (r : Int) + (d : Int) := by
  simp only [IntKind.wrap_u64]; omega
theorem tdiv_nat (a b : Nat) : (a : Int).tdiv (b : Int) = (a : Int) / (b : Int) := Int.tdiv_eq_ediv_of_nonneg (by omega)
set_option maxRecDepth 100000 in
set_option maxHeartbeats 2000000 in
theorem div64_high (hi lo y : Nat) (w : World) (h0 : 0 < hi) (h1 : hi < y) (h2 : y < 18446744073709551616) (h3 : lo < 18446744073709551616) :
    Calls Try.prog 47 #[.int .u64 hi, .int .u64 lo, .int .u64 y] w fun e w' => e = .returned (.tuple #[.int .u64 ((hi * 18446744073709551616 + lo) / y : Nat), .int .u64 ((hi * 18446744073709551616 + lo) % y : Nat)]) ∧ ∃ n, w' = w.drewN n := by
  obtain ⟨s, s1, s2, s3, s4⟩ := bitLen_b y (by omega) h2
  have hh : hi * 2 ^ s < 18446744073709551616 := by
    have := Nat.mul_le_mul_right (2 ^ s) (Nat.le_of_lt h1); omega
  have z1 : ((y : Int) == 0) = false := by simp; omega
  have z2 : decide ((y : Int) ≤ (hi : Int)) = false := by simp; omega
  have z3 : ((hi : Int) == 0) = false := by simp; omega
  have HN := Lib.hid (norm_parts (s := s) (hi := hi) (lo := lo) (by omega) hh h3)
  have HL := Lib.hid (norm_lt (s := s) (by omega) h1 h3)
  have HUn := Lib.hid (unnorm (hi * 18446744073709551616 + lo) y s)
  have E1 : IntKind.u64.wrap ((y : Int) * 2 ^ s) = ((y * 2 ^ s : Nat) : Int) := by rw [shl_in, Nat.mod_eq_of_lt s4]
  have E4 := or_high hi lo s s1 hh h3
  have E5 := shl_in lo s
  have hu4 : hi * 2 ^ s + lo / 2 ^ (64 - s) < 18446744073709551616 := by have := HL.out; omega
  have hd : lo * 2 ^ s % 18446744073709551616 < 18446744073709551616 := Nat.mod_lt _ (by omega)
  have HS2 := Lib.hid s2
  clear s2
  generalize hi * 2 ^ s + lo / 2 ^ (64 - s) = U at *
  generalize lo * 2 ^ s % 18446744073709551616 = D at *
  obtain ⟨Y, hY⟩ : ∃ Y, y * 2 ^ s = Y := ⟨_, rfl⟩
  rw [hY] at E1 HL s3 s4
  have HY := Lib.hid hY
  clear hY hh
  have E2 : (Y : Int) / 4294967296 = ((Y / 4294967296 : Nat) : Int) := m64div Y
  have E3 := and32 Y s4
  have E6 : (D : Int) / 4294967296 = ((D / 4294967296 : Nat) : Int) := m64div D
  have E7 := and32 D hd
  have k1 := split32 Y
  have k2 := split32 D
  have k3 := top32_ge s3
  have k4 := top32_lt s4
  have k5 := low32_lt Y
  have k6 := top32_lt hd
  have k7 := low32_lt D
  generalize Y / 4294967296 = y1 at *
  generalize Y % 4294967296 = y0 at *
  generalize D / 4294967296 = d1 at *
  generalize D % 4294967296 = d0 at *
  have hU : U < y1 * 4294967296 + y0 := by rw [k1]; exact HL.out
  have K1 := Lib.hid k1
  have K2 := Lib.hid k2
  have HU := Lib.hid hU
  clear k1 k2 hd hU
  have y1p : (2147483648 : Int) ≤ (y1 : Int) := by omega
  have y1z : ((y1 : Int) = 0) = False := by simp; omega
  have hyy : y1 * 4294967296 + y0 < 18446744073709551616 := by rw [K1.out]; exact s4
  have hl0 := lft_lt (d := d1) HU.out
  have L64 : lft U d1 y1 y0 < 18446744073709551616 := Nat.lt_trans hl0 hyy
  have HL1 := Lib.hid hl0
  have R1 : Hid (∀ t : Nat, t = dig U d1 y1 y0 → IntKind.u64.wrap (IntKind.u64.wrap (IntKind.u64.wrap ((U : Int) * 4294967296) + (d1 : Int)) - IntKind.u64.wrap ((t : Int) * (Y : Int))) = (lft U d1 y1 y0 : Int)) :=
    Lib.hid fun t ht => un_in (by rw [ht, ← K1.out]; exact lft_eq U d1 y1 y0) (by rw [← K1.out]; exact hl0) s4
  have R2 : Hid (∀ t : Nat, t = dig (lft U d1 y1 y0) d0 y1 y0 → IntKind.u64.wrap (IntKind.u64.wrap (IntKind.u64.wrap ((lft U d1 y1 y0 : Int) * 4294967296) + (d0 : Int)) - IntKind.u64.wrap ((t : Int) * (Y : Int))) = (lft (lft U d1 y1 y0) d0 y1 y0 : Int)) :=
    Lib.hid fun t ht => un_in (by rw [ht, ← K1.out]; exact lft_eq _ d0 y1 y0) (by rw [← K1.out]; exact lft_lt hl0) s4
  have TD := Lib.hid (two_digits (u := U) (d1 := d1) (d0 := d0) HU.out k6 k7)
  have DL1 := Lib.hid (dig_lt (d := d1) HU.out k6)
  have DL2 := Lib.hid (dig_lt (d := d0) hl0 k7)
  have FIN : Hid (∀ a b : Nat, a = dig U d1 y1 y0 → b = dig (lft U d1 y1 y0) d0 y1 y0 → (a : Int) * 4294967296 + (b : Int) = ((hi : Int) * 18446744073709551616 + (lo : Int)) / (y : Int)) := Lib.hid fun a b ha hb => by
    have a1 := TD.out.1
    rw [K1.out, K2.out, ← HN.out, ← HY.out, HUn.out.1, ← ha, ← hb] at a1
    exact cast_quo a1
  have FIN2 : Hid ((lft (lft U d1 y1 y0) d0 y1 y0 : Int) / 2 ^ s = ((hi : Int) * 18446744073709551616 + (lo : Int)) % (y : Int)) := Lib.hid (by
    have a2 := TD.out.2
    rw [K1.out, K2.out, ← HN.out, ← HY.out] at a2
    have a3 := HUn.out.2
    rw [← a2] at a3
    exact cast_rem a3)
  have GS := guess_start (u := U) (d := d1) (y1 := y1) (y0 := y0) (by omega) k6
  have GS2 := guess_start (u := lft U d1 y1 y0) (d := d0) (y1 := y1) (y0 := y0) (by omega) k7
  generalize hq0 : dig (lft U d1 y1 y0) d0 y1 y0 = q0F at *
  generalize lft (lft U d1 y1 y0) d0 y1 y0 = r0F at *
  generalize hq1 : dig U d1 y1 y0 = q1F at *
  generalize lft U d1 y1 y0 = L at *
  have HQ0 := Lib.hid hq0
  have HQ1 := Lib.hid hq1
  clear hq0 hq1
  have q1b : U / y1 < 18446744073709551616 := by have := Nat.div_le_self U y1; omega
  have E8 := div_in2 U y1 hu4
  have E9 := mul_in2 U y1 hu4
  obtain ⟨hrl, hpq⟩ := left_lt U y1 (by omega) k4
  have q1b' : L / y1 < 18446744073709551616 := by have := Nat.div_le_self L y1; omega
  have E8' := div_in2 L y1 L64
  have E9' := mul_in2 L y1 L64
  have E8t := tdiv_nat L y1
  obtain ⟨hrl', hpq'⟩ := left_lt L y1 (by omega) k4
  generalize L / y1 * y1 = P' at *
  generalize L / y1 = qs at *
  have G1' := Lib.hid GS2
  clear GS2 hl0 hyy
  generalize U / y1 * y1 = P at *
  generalize U / y1 = q at *
  have G1 := Lib.hid GS
  clear GS
  have HY2 := Lib.hid h2
  have K4 := Lib.hid k4
  have K5 := Lib.hid k5
  have K6 := Lib.hid k6
  have K7 := Lib.hid k7
  clear k3 k4 k5 k6 k7 s3 s4 h3
  go_enter Try.func47, Try.ntmps47
  go_wp2_with fail
  refine (lz64_any y _ HY2.out).mono ?_
  rintro e w' ⟨rfl, rfl⟩
  rw [HS2.out]
  clear h0 h1 h2
  go_wp2_with fail
  go_loop [15, 16] (fun t i => ∃ q r : Nat, q < 18446744073709551616 ∧ r < 4294967296 ∧ t = .int .u64 q ∧ i = .int .u64 r ∧ Hid (Guess U d1 y1 y0 q r)) (fun t _ => (intOf t).toNat)
  case atStart => exact ⟨q, U - P, q1b, hrl, rfl, congrArg (Value.int .u64) (by omega), G1⟩
  case round =>
    obtain ⟨q, r, hq, hr, rfl, rfl, HG⟩ := hrel
    by_cases c1 : 4294967296 ≤ q
    · obtain ⟨g0, HG'⟩ := guess_step HG.out K6.out HU.out (.inl c1)
      have c1i : decide ((4294967296 : Int) ≤ (q : Int)) = true := by simp; omega
      obtain ⟨t, ht⟩ : ∃ t, q - 1 = t := ⟨_, rfl⟩
      obtain ⟨v, hv⟩ : ∃ v, r + y1 = v := ⟨_, rfl⟩
      rw [ht, hv] at HG'
      have f1 : IntKind.u64.wrap ((q : Int) - 1) = (t : Int) := by rw [show (q : Int) - 1 = (t : Int) by omega]; exact m64wrap _ (by have := K4.out; omega)
      have f3 : IntKind.u64.wrap ((r : Int) + (y1 : Int)) = (v : Int) := by rw [show (r : Int) + (y1 : Int) = (v : Int) by omega]; exact m64wrap _ (by have := K4.out; omega)
      have htq : t < q := by omega
      have htl : t < 18446744073709551616 := by omega
      have HTQ := Lib.hid htq
      have HTL := Lib.hid htl
      have G2 := Lib.hid HG'
      clear HG HG' g0 c1 hq hr ht htq htl
      by_cases c2 : 4294967296 ≤ v
      · have c2i : decide ((4294967296 : Int) ≤ (v : Int)) = true := by simp; omega
        have HB := Lib.hid ((guess_break G2.out HU.out K5.out c2).trans HQ1.out)
        clear c2 hv
        have h8 := R1.out _ HB.out
        have HB1 := Lib.hid HB.out
        have bt : (t : Int) < 4294967296 := by have := HB.out; have := DL1.out; omega
        clear HB
        go_wp2_with fail
        go_loop [18, 16] (fun a i => ∃ q r : Nat, q < 18446744073709551616 ∧ r < 4294967296 ∧ a = .int .u64 q ∧ i = .int .u64 r ∧ Hid (Guess L d0 y1 y0 q r)) (fun a _ => (intOf a).toNat)
        case atStart => exact ⟨qs, L - P', q1b', hrl', rfl, congrArg (Value.int .u64) (by omega), G1'⟩
        case round =>
          obtain ⟨q2, r2, hq, hr, rfl, rfl, HG2⟩ := hrel
          by_cases c1 : 4294967296 ≤ q2
          · obtain ⟨g0, HG'⟩ := guess_step HG2.out K7.out HL1.out (.inl c1)
            have c1i : decide ((4294967296 : Int) ≤ (q2 : Int)) = true := by simp; omega
            obtain ⟨t, ht⟩ : ∃ t, q2 - 1 = t := ⟨_, rfl⟩
            obtain ⟨v, hv⟩ : ∃ v, r2 + y1 = v := ⟨_, rfl⟩
            rw [ht, hv] at HG'
            have f1 : IntKind.u64.wrap ((q2 : Int) - 1) = (t : Int) := by rw [show (q2 : Int) - 1 = (t : Int) by omega]; exact m64wrap _ (by have := K4.out; omega)
            have f3 : IntKind.u64.wrap ((r2 : Int) + (y1 : Int)) = (v : Int) := by rw [show (r2 : Int) + (y1 : Int) = (v : Int) by omega]; exact m64wrap _ (by have := K4.out; omega)
            have htq : t < q2 := by omega
            have htl : t < 18446744073709551616 := by omega
            have HTQ := Lib.hid htq
            have HTL := Lib.hid htl
            have G2 := Lib.hid HG'
            clear HG2 HG' g0 c1 hq hr ht htq htl
            by_cases c2 : 4294967296 ≤ v
            · have c2i : decide ((4294967296 : Int) ≤ (v : Int)) = true := by simp; omega
              have HB := Lib.hid ((guess_break G2.out HL1.out K5.out c2).trans HQ0.out)
              clear c2 hv
              have h9 := R2.out _ HB.out
              have bl : (t : Int) < 4294967296 := by have := HB.out; have := DL2.out; omega
              have HB2 := Lib.hid HB.out
              clear HB
              go_wp2
              go_ret2
              exact ⟨ret_two (FIN.out _ _ HB1.out HB2.out) FIN2.out, 0, rfl⟩
            · have c2i : decide ((4294967296 : Int) ≤ (v : Int)) = false := by simp; omega
              have HV := Lib.hid (show v < 4294967296 by omega)
              clear c2 hv
              go_wp2
              go_round
              case rel => exact ⟨t, v, HTL.out, HV.out, rfl, rfl, G2⟩
              case measure => simp [intOf]; exact HTQ.out
          · have c1i : decide ((4294967296 : Int) ≤ (q2 : Int)) = false := by simp; omega
            obtain ⟨Z, hZ⟩ : ∃ Z, q2 * y0 = Z := ⟨_, rfl⟩
            have hZl : Z < 18446744073709551616 := by rw [← hZ]; exact prod_lt (by omega) K5.out
            have f4 : IntKind.u64.wrap ((q2 : Int) * (y0 : Int)) = (Z : Int) := by rw [← Int.natCast_mul, hZ]; exact m64wrap _ hZl
            have f5 : IntKind.u64.wrap (IntKind.u64.wrap (4294967296 * (r2 : Int)) + (d0 : Int)) = 4294967296 * (r2 : Int) + (d0 : Int) := sum_in hr K7.out
            obtain ⟨X, hX⟩ : ∃ X : Int, 4294967296 * (r2 : Int) + (d0 : Int) = X := ⟨_, rfl⟩
            rw [hX] at f5
            by_cases c3 : 4294967296 * r2 + d0 < Z
            · have c3i : decide (X < (Z : Int)) = true := by simp; omega
              obtain ⟨g0, HG'⟩ := guess_step HG2.out K7.out HL1.out (.inr (by rw [hZ]; exact c3))
              obtain ⟨t, ht⟩ : ∃ t, q2 - 1 = t := ⟨_, rfl⟩
              obtain ⟨v, hv⟩ : ∃ v, r2 + y1 = v := ⟨_, rfl⟩
              rw [ht, hv] at HG'
              have f1 : IntKind.u64.wrap ((q2 : Int) - 1) = (t : Int) := by rw [show (q2 : Int) - 1 = (t : Int) by omega]; exact m64wrap _ (by have := K4.out; omega)
              have f3 : IntKind.u64.wrap ((r2 : Int) + (y1 : Int)) = (v : Int) := by rw [show (r2 : Int) + (y1 : Int) = (v : Int) by omega]; exact m64wrap _ (by have := K4.out; omega)
              have htq : t < q2 := by omega
              have htl : t < 18446744073709551616 := by omega
              have HTQ := Lib.hid htq
              have HTL := Lib.hid htl
              have G2 := Lib.hid HG'
              clear HG2 HG' g0 c1 hZ hZl hX c3 hq hr ht htq htl
              by_cases c2 : 4294967296 ≤ v
              · have c2i : decide ((4294967296 : Int) ≤ (v : Int)) = true := by simp; omega
                have HB := Lib.hid ((guess_break G2.out HL1.out K5.out c2).trans HQ0.out)
                clear c2 hv
                have h9 := R2.out _ HB.out
                have bl : (t : Int) < 4294967296 := by have := HB.out; have := DL2.out; omega
                have HB2 := Lib.hid HB.out
                clear HB
                go_wp2
                go_ret2
                exact ⟨ret_two (FIN.out _ _ HB1.out HB2.out) FIN2.out, 0, rfl⟩
              · have c2i : decide ((4294967296 : Int) ≤ (v : Int)) = false := by simp; omega
                have HV := Lib.hid (show v < 4294967296 by omega)
                clear c2 hv
                go_wp2
                go_round
                case rel => exact ⟨t, v, HTL.out, HV.out, rfl, rfl, G2⟩
                case measure => simp [intOf]; exact HTQ.out
            · have c3i : decide (X < (Z : Int)) = false := by simp; omega
              have HB := Lib.hid ((guess_is HG2.out (by rw [hZ]; omega)).trans HQ0.out)
              have HQL := Lib.hid hq
              clear HG2 c1 hZ hZl hX c3 hq hr
              have h9 := R2.out _ HB.out
              have bl : (q2 : Int) < 4294967296 := by have := HB.out; have := DL2.out; omega
              have HB2 := Lib.hid HB.out
              clear HB
              go_wp2
              go_ret2
              exact ⟨ret_two (FIN.out _ _ HB1.out HB2.out) FIN2.out, 0, rfl⟩
      · have c2i : decide ((4294967296 : Int) ≤ (v : Int)) = false := by simp; omega
        have HV := Lib.hid (show v < 4294967296 by omega)
        clear c2 hv
        go_wp2
        go_round
        case rel => exact ⟨t, v, HTL.out, HV.out, rfl, rfl, G2⟩
        case measure => simp [intOf]; exact HTQ.out
    · have c1i : decide ((4294967296 : Int) ≤ (q : Int)) = false := by simp; omega
      obtain ⟨Z, hZ⟩ : ∃ Z, q * y0 = Z := ⟨_, rfl⟩
      have hZl : Z < 18446744073709551616 := by rw [← hZ]; exact prod_lt (by omega) K5.out
      have f4 : IntKind.u64.wrap ((q : Int) * (y0 : Int)) = (Z : Int) := by rw [← Int.natCast_mul, hZ]; exact m64wrap _ hZl
      have f5 : IntKind.u64.wrap (IntKind.u64.wrap (4294967296 * (r : Int)) + (d1 : Int)) = 4294967296 * (r : Int) + (d1 : Int) := sum_in hr K6.out
      obtain ⟨X, hX⟩ : ∃ X : Int, 4294967296 * (r : Int) + (d1 : Int) = X := ⟨_, rfl⟩
      rw [hX] at f5
      by_cases c3 : 4294967296 * r + d1 < Z
      · have c3i : decide (X < (Z : Int)) = true := by simp; omega
        obtain ⟨g0, HG'⟩ := guess_step HG.out K6.out HU.out (.inr (by rw [hZ]; exact c3))
        obtain ⟨t, ht⟩ : ∃ t, q - 1 = t := ⟨_, rfl⟩
        obtain ⟨v, hv⟩ : ∃ v, r + y1 = v := ⟨_, rfl⟩
        rw [ht, hv] at HG'
        have f1 : IntKind.u64.wrap ((q : Int) - 1) = (t : Int) := by rw [show (q : Int) - 1 = (t : Int) by omega]; exact m64wrap _ (by have := K4.out; omega)
        have f3 : IntKind.u64.wrap ((r : Int) + (y1 : Int)) = (v : Int) := by rw [show (r : Int) + (y1 : Int) = (v : Int) by omega]; exact m64wrap _ (by have := K4.out; omega)
        have htq : t < q := by omega
        have htl : t < 18446744073709551616 := by omega
        have HTQ := Lib.hid htq
        have HTL := Lib.hid htl
        have G2 := Lib.hid HG'
        clear HG HG' g0 c1 hZ hZl hX c3 hq hr ht htq htl
        by_cases c2 : 4294967296 ≤ v
        · have c2i : decide ((4294967296 : Int) ≤ (v : Int)) = true := by simp; omega
          have HB := Lib.hid ((guess_break G2.out HU.out K5.out c2).trans HQ1.out)
          clear c2 hv
          have h8 := R1.out _ HB.out
          have HB1 := Lib.hid HB.out
          have bt : (t : Int) < 4294967296 := by have := HB.out; have := DL1.out; omega
          clear HB
          go_wp2_with fail
          go_loop [18, 16] (fun a i => ∃ q r : Nat, q < 18446744073709551616 ∧ r < 4294967296 ∧ a = .int .u64 q ∧ i = .int .u64 r ∧ Hid (Guess L d0 y1 y0 q r)) (fun a _ => (intOf a).toNat)
          case atStart => exact ⟨qs, L - P', q1b', hrl', rfl, congrArg (Value.int .u64) (by omega), G1'⟩
          case round =>
            obtain ⟨q2, r2, hq, hr, rfl, rfl, HG2⟩ := hrel
            by_cases c1 : 4294967296 ≤ q2
            · obtain ⟨g0, HG'⟩ := guess_step HG2.out K7.out HL1.out (.inl c1)
              have c1i : decide ((4294967296 : Int) ≤ (q2 : Int)) = true := by simp; omega
              obtain ⟨t, ht⟩ : ∃ t, q2 - 1 = t := ⟨_, rfl⟩
              obtain ⟨v, hv⟩ : ∃ v, r2 + y1 = v := ⟨_, rfl⟩
              rw [ht, hv] at HG'
              have f1 : IntKind.u64.wrap ((q2 : Int) - 1) = (t : Int) := by rw [show (q2 : Int) - 1 = (t : Int) by omega]; exact m64wrap _ (by have := K4.out; omega)
              have f3 : IntKind.u64.wrap ((r2 : Int) + (y1 : Int)) = (v : Int) := by rw [show (r2 : Int) + (y1 : Int) = (v : Int) by omega]; exact m64wrap _ (by have := K4.out; omega)
              have htq : t < q2 := by omega
              have htl : t < 18446744073709551616 := by omega
              have HTQ := Lib.hid htq
              have HTL := Lib.hid htl
              have G2 := Lib.hid HG'
              clear HG2 HG' g0 c1 hq hr ht htq htl
              by_cases c2 : 4294967296 ≤ v
              · have c2i : decide ((4294967296 : Int) ≤ (v : Int)) = true := by simp; omega
                have HB := Lib.hid ((guess_break G2.out HL1.out K5.out c2).trans HQ0.out)
                clear c2 hv
                have h9 := R2.out _ HB.out
                have bl : (t : Int) < 4294967296 := by have := HB.out; have := DL2.out; omega
                have HB2 := Lib.hid HB.out
                clear HB
                go_wp2
                go_ret2
                exact ⟨ret_two (FIN.out _ _ HB1.out HB2.out) FIN2.out, 0, rfl⟩
              · have c2i : decide ((4294967296 : Int) ≤ (v : Int)) = false := by simp; omega
                have HV := Lib.hid (show v < 4294967296 by omega)
                clear c2 hv
                go_wp2
                go_round
                case rel => exact ⟨t, v, HTL.out, HV.out, rfl, rfl, G2⟩
                case measure => simp [intOf]; exact HTQ.out
            · have c1i : decide ((4294967296 : Int) ≤ (q2 : Int)) = false := by simp; omega
              obtain ⟨Z, hZ⟩ : ∃ Z, q2 * y0 = Z := ⟨_, rfl⟩
              have hZl : Z < 18446744073709551616 := by rw [← hZ]; exact prod_lt (by omega) K5.out
              have f4 : IntKind.u64.wrap ((q2 : Int) * (y0 : Int)) = (Z : Int) := by rw [← Int.natCast_mul, hZ]; exact m64wrap _ hZl
              have f5 : IntKind.u64.wrap (IntKind.u64.wrap (4294967296 * (r2 : Int)) + (d0 : Int)) = 4294967296 * (r2 : Int) + (d0 : Int) := sum_in hr K7.out
              obtain ⟨X, hX⟩ : ∃ X : Int, 4294967296 * (r2 : Int) + (d0 : Int) = X := ⟨_, rfl⟩
              rw [hX] at f5
              by_cases c3 : 4294967296 * r2 + d0 < Z
              · have c3i : decide (X < (Z : Int)) = true := by simp; omega
                obtain ⟨g0, HG'⟩ := guess_step HG2.out K7.out HL1.out (.inr (by rw [hZ]; exact c3))
                obtain ⟨t, ht⟩ : ∃ t, q2 - 1 = t := ⟨_, rfl⟩
                obtain ⟨v, hv⟩ : ∃ v, r2 + y1 = v := ⟨_, rfl⟩
                rw [ht, hv] at HG'
                have f1 : IntKind.u64.wrap ((q2 : Int) - 1) = (t : Int) := by rw [show (q2 : Int) - 1 = (t : Int) by omega]; exact m64wrap _ (by have := K4.out; omega)
                have f3 : IntKind.u64.wrap ((r2 : Int) + (y1 : Int)) = (v : Int) := by rw [show (r2 : Int) + (y1 : Int) = (v : Int) by omega]; exact m64wrap _ (by have := K4.out; omega)
                have htq : t < q2 := by omega
                have htl : t < 18446744073709551616 := by omega
                have HTQ := Lib.hid htq
                have HTL := Lib.hid htl
                have G2 := Lib.hid HG'
                clear HG2 HG' g0 c1 hZ hZl hX c3 hq hr ht htq htl
                by_cases c2 : 4294967296 ≤ v
                · have c2i : decide ((4294967296 : Int) ≤ (v : Int)) = true := by simp; omega
                  have HB := Lib.hid ((guess_break G2.out HL1.out K5.out c2).trans HQ0.out)
                  clear c2 hv
                  have h9 := R2.out _ HB.out
                  have bl : (t : Int) < 4294967296 := by have := HB.out; have := DL2.out; omega
                  have HB2 := Lib.hid HB.out
                  clear HB
                  go_wp2
                  go_ret2
                  exact ⟨ret_two (FIN.out _ _ HB1.out HB2.out) FIN2.out, 0, rfl⟩
                · have c2i : decide ((4294967296 : Int) ≤ (v : Int)) = false := by simp; omega
                  have HV := Lib.hid (show v < 4294967296 by omega)
                  clear c2 hv
                  go_wp2
                  go_round
                  case rel => exact ⟨t, v, HTL.out, HV.out, rfl, rfl, G2⟩
                  case measure => simp [intOf]; exact HTQ.out
              · have c3i : decide (X < (Z : Int)) = false := by simp; omega
                have HB := Lib.hid ((guess_is HG2.out (by rw [hZ]; omega)).trans HQ0.out)
                have HQL := Lib.hid hq
                clear HG2 c1 hZ hZl hX c3 hq hr
                have h9 := R2.out _ HB.out
                have bl : (q2 : Int) < 4294967296 := by have := HB.out; have := DL2.out; omega
                have HB2 := Lib.hid HB.out
                clear HB
                go_wp2
                go_ret2
                exact ⟨ret_two (FIN.out _ _ HB1.out HB2.out) FIN2.out, 0, rfl⟩
        · have c2i : decide ((4294967296 : Int) ≤ (v : Int)) = false := by simp; omega
          have HV := Lib.hid (show v < 4294967296 by omega)
          clear c2 hv
          go_wp2
          go_round
          case rel => exact ⟨t, v, HTL.out, HV.out, rfl, rfl, G2⟩
          case measure => simp [intOf]; exact HTQ.out
      · have c3i : decide (X < (Z : Int)) = false := by simp; omega
        have HB := Lib.hid ((guess_is HG.out (by rw [hZ]; omega)).trans HQ1.out)
        have HQL := Lib.hid hq
        clear HG c1 hZ hZl hX c3 hq hr
        have h8 := R1.out _ HB.out
        have HB1 := Lib.hid HB.out
        have bt : (q : Int) < 4294967296 := by have := HB.out; have := DL1.out; omega
        clear HB
        go_wp2_with fail
        go_loop [18, 16] (fun a i => ∃ q r : Nat, q < 18446744073709551616 ∧ r < 4294967296 ∧ a = .int .u64 q ∧ i = .int .u64 r ∧ Hid (Guess L d0 y1 y0 q r)) (fun a _ => (intOf a).toNat)
        case atStart => exact ⟨qs, L - P', q1b', hrl', rfl, congrArg (Value.int .u64) (by omega), G1'⟩
        case round =>
          obtain ⟨q2, r2, hq, hr, rfl, rfl, HG2⟩ := hrel
          by_cases c1 : 4294967296 ≤ q2
          · obtain ⟨g0, HG'⟩ := guess_step HG2.out K7.out HL1.out (.inl c1)
            have c1i : decide ((4294967296 : Int) ≤ (q2 : Int)) = true := by simp; omega
            obtain ⟨t, ht⟩ : ∃ t, q2 - 1 = t := ⟨_, rfl⟩
            obtain ⟨v, hv⟩ : ∃ v, r2 + y1 = v := ⟨_, rfl⟩
            rw [ht, hv] at HG'
            have f1 : IntKind.u64.wrap ((q2 : Int) - 1) = (t : Int) := by rw [show (q2 : Int) - 1 = (t : Int) by omega]; exact m64wrap _ (by have := K4.out; omega)
            have f3 : IntKind.u64.wrap ((r2 : Int) + (y1 : Int)) = (v : Int) := by rw [show (r2 : Int) + (y1 : Int) = (v : Int) by omega]; exact m64wrap _ (by have := K4.out; omega)
            have htq : t < q2 := by omega
            have htl : t < 18446744073709551616 := by omega
            have HTQ := Lib.hid htq
            have HTL := Lib.hid htl
            have G2 := Lib.hid HG'
            clear HG2 HG' g0 c1 hq hr ht htq htl
            by_cases c2 : 4294967296 ≤ v
            · have c2i : decide ((4294967296 : Int) ≤ (v : Int)) = true := by simp; omega
              have HB := Lib.hid ((guess_break G2.out HL1.out K5.out c2).trans HQ0.out)
              clear c2 hv
              have h9 := R2.out _ HB.out
              have bl : (t : Int) < 4294967296 := by have := HB.out; have := DL2.out; omega
              have HB2 := Lib.hid HB.out
              clear HB
              go_wp2
              go_ret2
              exact ⟨ret_two (FIN.out _ _ HB1.out HB2.out) FIN2.out, 0, rfl⟩
            · have c2i : decide ((4294967296 : Int) ≤ (v : Int)) = false := by simp; omega
              have HV := Lib.hid (show v < 4294967296 by omega)
              clear c2 hv
              go_wp2
              go_round
              case rel => exact ⟨t, v, HTL.out, HV.out, rfl, rfl, G2⟩
              case measure => simp [intOf]; exact HTQ.out
          · have c1i : decide ((4294967296 : Int) ≤ (q2 : Int)) = false := by simp; omega
            obtain ⟨Z, hZ⟩ : ∃ Z, q2 * y0 = Z := ⟨_, rfl⟩
            have hZl : Z < 18446744073709551616 := by rw [← hZ]; exact prod_lt (by omega) K5.out
            have f4 : IntKind.u64.wrap ((q2 : Int) * (y0 : Int)) = (Z : Int) := by rw [← Int.natCast_mul, hZ]; exact m64wrap _ hZl
            have f5 : IntKind.u64.wrap (IntKind.u64.wrap (4294967296 * (r2 : Int)) + (d0 : Int)) = 4294967296 * (r2 : Int) + (d0 : Int) := sum_in hr K7.out
            obtain ⟨X, hX⟩ : ∃ X : Int, 4294967296 * (r2 : Int) + (d0 : Int) = X := ⟨_, rfl⟩
            rw [hX] at f5
            by_cases c3 : 4294967296 * r2 + d0 < Z
            · have c3i : decide (X < (Z : Int)) = true := by simp; omega
              obtain ⟨g0, HG'⟩ := guess_step HG2.out K7.out HL1.out (.inr (by rw [hZ]; exact c3))
              obtain ⟨t, ht⟩ : ∃ t, q2 - 1 = t := ⟨_, rfl⟩
              obtain ⟨v, hv⟩ : ∃ v, r2 + y1 = v := ⟨_, rfl⟩
              rw [ht, hv] at HG'
              have f1 : IntKind.u64.wrap ((q2 : Int) - 1) = (t : Int) := by rw [show (q2 : Int) - 1 = (t : Int) by omega]; exact m64wrap _ (by have := K4.out; omega)
              have f3 : IntKind.u64.wrap ((r2 : Int) + (y1 : Int)) = (v : Int) := by rw [show (r2 : Int) + (y1 : Int) = (v : Int) by omega]; exact m64wrap _ (by have := K4.out; omega)
              have htq : t < q2 := by omega
              have htl : t < 18446744073709551616 := by omega
              have HTQ := Lib.hid htq
              have HTL := Lib.hid htl
              have G2 := Lib.hid HG'
              clear HG2 HG' g0 c1 hZ hZl hX c3 hq hr ht htq htl
              by_cases c2 : 4294967296 ≤ v
              · have c2i : decide ((4294967296 : Int) ≤ (v : Int)) = true := by simp; omega
                have HB := Lib.hid ((guess_break G2.out HL1.out K5.out c2).trans HQ0.out)
                clear c2 hv
                have h9 := R2.out _ HB.out
                have bl : (t : Int) < 4294967296 := by have := HB.out; have := DL2.out; omega
                have HB2 := Lib.hid HB.out
                clear HB
                go_wp2
                go_ret2
                exact ⟨ret_two (FIN.out _ _ HB1.out HB2.out) FIN2.out, 0, rfl⟩
              · have c2i : decide ((4294967296 : Int) ≤ (v : Int)) = false := by simp; omega
                have HV := Lib.hid (show v < 4294967296 by omega)
                clear c2 hv
                go_wp2
                go_round
                case rel => exact ⟨t, v, HTL.out, HV.out, rfl, rfl, G2⟩
                case measure => simp [intOf]; exact HTQ.out
            · have c3i : decide (X < (Z : Int)) = false := by simp; omega
              have HB := Lib.hid ((guess_is HG2.out (by rw [hZ]; omega)).trans HQ0.out)
              have HQL := Lib.hid hq
              clear HG2 c1 hZ hZl hX c3 hq hr
              have h9 := R2.out _ HB.out
              have bl : (q2 : Int) < 4294967296 := by have := HB.out; have := DL2.out; omega
              have HB2 := Lib.hid HB.out
              clear HB
              go_wp2
              go_ret2
              exact ⟨ret_two (FIN.out _ _ HB1.out HB2.out) FIN2.out, 0, rfl⟩
end Go.Proofs.Ytjclioakdmilmaa
