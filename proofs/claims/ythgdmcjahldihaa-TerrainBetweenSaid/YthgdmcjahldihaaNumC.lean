/- The contracts of num.divisor, num.signed, num.Make and of the reference's common and Make. -/
import Derived.Test.YthgdmcjahldihaaNumB
import Derived.Test.YthgdmcjahldihaaNumPlainC
import Derived.Below
namespace Go.Proofs.Ythgdmcjahldihaa
open Go.RowKit
open Num

set_option maxHeartbeats 400000 in
theorem divisor_any (a b : Nat) (w : World) (ha : a < 18446744073709551616) (hb : b < 18446744073709551616) :
    Calls Try.prog 61 #[.int .u64 a, .int .u64 b] w fun e w' => e = .returned (.int .u64 (Nat.gcd a b)) ∧ ∃ n, w' = w.drewN n := by
  go_enter Try.func61, Try.ntmps61
  go_wp2_with fail
  go_loopw [0, 1] (fun u v wr => ∃ x y : Nat, x < 18446744073709551616 ∧ y < 18446744073709551616 ∧ u = .int .u64 x ∧ v = .int .u64 y ∧ Hid (Nat.gcd x y = Nat.gcd a b) ∧ Hid (∃ n, wr = w.drewN n)) (fun _ v _ => (intOf v).toNat)
  case atStart => exact ⟨a, b, ha, hb, rfl, rfl, Lib.hid rfl, Lib.hid ⟨0, rfl⟩⟩
  case round =>
    obtain ⟨x, y, hx, hy, rfl, rfl, HG, HW⟩ := hrel
    by_cases h0 : y = 0
    · subst h0
      go_wp2
      go_ret
      exact ⟨ret_int (by rw [← HG.out]; simp), HW.out⟩
    · have h1 : ((y : Int) != 0) = true := by simpa using h0
      have h2 : (y : Int) ≠ 0 := by simpa using h0
      have h3 : (1 : Int) ≤ y := by omega
      have hm : x % y < y := Nat.mod_lt _ (by omega)
      go_wp2_with fail
      go_quiet (fail)
      go_wp2
      go_roundw
      case rel => exact ⟨y, x % y, hy, by omega, rfl, by first | rfl | go_num, Lib.hid (by rw [← HG.out, Nat.gcd_comm x y, Nat.gcd_rec y x, Nat.gcd_comm]), Lib.hid (by obtain ⟨k, hk⟩ := HW.out; exact ⟨k + nq, by rw [hk, World.drewN_drewN]⟩)⟩
      case measure => simp [intOf]; omega

theorem ret_ib {a b : Int} {c d : Bool} (h : a = b) (h' : c = d) : Ending.returned (.tuple #[.int .i64 a, .bool c]) = .returned (.tuple #[.int .i64 b, .bool d]) := by rw [h, h']
set_option maxHeartbeats 400000 in
theorem signed_any (n : Nat) (neg : Bool) (w : World) (hn : n < 18446744073709551616) :
    Calls Try.prog 62 #[.int .u64 n, .bool neg] w fun e w' => e = .returned (.tuple #[.int .i64 (sVal neg n), .bool (sOk neg n)]) ∧ w = w' := by
  rcases Nat.lt_trichotomy n 9223372036854775808 with h | h | h <;> cases neg
  all_goals
    go_enter Try.func62, Try.ntmps62
    go_wp2
    go_ret2
    refine ⟨ret_ib ?_ ?_, rfl⟩ <;> simp [sVal, sOk, IntKind.wrap_u64, wrap64] <;> omega

/-- a quotient of absolute values -/
theorem quo_in (a : Int) (g : Nat) (h1 : -9223372036854775808 ≤ a) (h2 : a ≤ 9223372036854775807) : IntKind.u64.wrap ((a.natAbs : Int) / (g : Int)) = ((a.natAbs / g : Nat) : Int) := by
  have : a.natAbs / g ≤ a.natAbs := Nat.div_le_self _ _
  rw [← Int.natCast_ediv]
  generalize a.natAbs / g = z at *
  exact IntWalk.u64_in _ (by omega)

theorem below_box_drewN (w : World) (o : Obj) (n : Nat) : Below w.heap.size w ((w.alloc o).drewN n) := ((Below.refl _ _).alloc (Nat.le_refl _) _).trans ⟨rfl, rfl, rfl, Nat.le_refl _, fun _ _ => rfl⟩
/-- a fraction with an error, as Make returns it -/
def FracOut (p q E : Int) (w : World) (e : Ending) (w' : World) : Prop :=
  e = .returned (.tuple #[.agg #[.int .i64 p, .int .i64 q], .int .i64 E]) ∧ Below w.heap.size w w'

set_option maxHeartbeats 400000 in
theorem make_div (a : Int) (w : World) :
    Calls Try.prog 50 #[.int .i64 a, .int .i64 0] w (FracOut 0 0 21 w) := by
  go_enter Try.func50, Try.ntmps50
  go_wp2
  refine bodyPost_ret (v := .tuple #[.agg #[.int .i64 0, .int .i64 0], .int .i64 21]) (by simp [results, Try.results50, go_sem]) rfl ⟨rfl, by go_grown⟩

set_option maxHeartbeats 1000000 in
theorem make_ok (a b : Int) (w : World) (h1 : I64 a) (h2 : I64 b) (hb : b ≠ 0) :
    Calls Try.prog 50 #[.int .i64 a, .int .i64 b] w (FracOut (mkN a b) (mkD a b) (mkE a b) w) := by
  unfold I64 at h1 h2
  obtain ⟨h11, h12⟩ := h1
  obtain ⟨h21, h22⟩ := h2
  have hbe : (b == 0) = false := by simpa using hb
  have hg := gd_pos (a := a) hb
  have hu := upq_le a b
  have hl := loq_le a b
  have HB := Lib.hid hb
  have hgd : Nat.gcd a.natAbs b.natAbs = gd a b := rfl
  have QA := Lib.hid (show IntKind.u64.wrap ((a.natAbs : Int) / (gd a b : Int)) = (upq a b : Int) from quo_in a _ h11 h12)
  have QB := Lib.hid (show IntKind.u64.wrap ((b.natAbs : Int) / (gd a b : Int)) = (loq a b : Int) from quo_in b _ h21 h22)
  have HE : Hid (mkE a b = if (sOk (ngt a b) (upq a b) && sOk false (loq a b)) = true then 0 else 15) := by
    apply Lib.hid; unfold mkE mkOk; rw [if_neg hb]
  have HN : Hid (mkE a b = 0 → mkN a b = sVal (ngt a b) (upq a b) ∧ mkD a b = sVal false (loq a b)) := by
    apply Lib.hid; intro h; unfold mkN mkD; rw [if_pos h, if_pos h]; exact ⟨rfl, rfl⟩
  have HN' : Hid (mkE a b ≠ 0 → mkN a b = 0 ∧ mkD a b = 0) := by
    apply Lib.hid; intro h; unfold mkN mkD; rw [if_neg h, if_neg h]; exact ⟨rfl, rfl⟩
  have HGT : Hid ((!(decide (a < 0) == decide (b < 0))) = ngt a b) := Lib.hid rfl
  have HGD := Lib.hid hgd
  clear hb hgd
  generalize upq a b = ua at *
  generalize loq a b = lb at *
  generalize gd a b = g at *
  have g1 : (1 : Int) ≤ g := by omega
  have g0 : ((g : Int) = 0) = False := by simp; omega
  go_enter Try.func50, Try.ntmps50
  go_wp2_with fail
  refine (size_any a _ h11 h12).mono ?_
  rintro e w' ⟨rfl, rfl⟩
  go_wp2_with fail
  refine (size_any b _ h21 h22).mono ?_
  rintro e w' ⟨rfl, rfl⟩
  go_wp2_with fail
  refine (divisor_any a.natAbs b.natAbs _ (by omega) (by omega)).mono ?_
  rintro e w' ⟨rfl, n, rfl⟩
  rw [HGD.out]
  go_wp2_with fail
  refine (size_any a _ h11 h12).mono ?_
  rintro e w' ⟨rfl, rfl⟩
  go_wp2_with fail
  rw [HGT.out]
  rw [QA.out]
  refine (signed_any _ _ _ (by omega)).mono ?_
  rintro e w' ⟨rfl, rfl⟩
  go_wp2_with fail
  refine (size_any b _ h21 h22).mono ?_
  rintro e w' ⟨rfl, rfl⟩
  go_wp2_with fail
  rw [QB.out]
  refine (signed_any _ _ _ (by omega)).mono ?_
  rintro e w' ⟨rfl, rfl⟩
  cases hs1 : sOk (ngt a b) ua
  · have hE : mkE a b = 15 := by rw [HE.out, hs1]; rfl
    obtain ⟨n1, n2⟩ := HN'.out (by rw [hE]; decide)
    have HF := Lib.hid (show mkN a b = 0 ∧ mkD a b = 0 ∧ mkE a b = 15 from ⟨n1, n2, hE⟩)
    clear n1 n2 hE
    go_wp2
    rw [HF.out.1, HF.out.2.1, HF.out.2.2]
    exact bodyPost_ret (v := .tuple #[.agg #[.int .i64 0, .int .i64 0], .int .i64 15]) (by simp [results, Try.results50, go_sem]) rfl ⟨rfl, by go_grown; exact below_box_drewN _ _ _⟩
  · cases hs2 : sOk false lb
    · have hE : mkE a b = 15 := by rw [HE.out, hs1, hs2]; rfl
      obtain ⟨n1, n2⟩ := HN'.out (by rw [hE]; decide)
      have HF := Lib.hid (show mkN a b = 0 ∧ mkD a b = 0 ∧ mkE a b = 15 from ⟨n1, n2, hE⟩)
      clear n1 n2 hE
      go_wp2
      rw [HF.out.1, HF.out.2.1, HF.out.2.2]
      exact bodyPost_ret (v := .tuple #[.agg #[.int .i64 0, .int .i64 0], .int .i64 15]) (by simp [results, Try.results50, go_sem]) rfl ⟨rfl, by go_grown; exact below_box_drewN _ _ _⟩
    · have hE : mkE a b = 0 := by rw [HE.out, hs1, hs2]; rfl
      obtain ⟨n1, n2⟩ := HN.out hE
      have HF := Lib.hid (show mkN a b = sVal (ngt a b) ua ∧ mkD a b = sVal false lb ∧ mkE a b = 0 from ⟨n1, n2, hE⟩)
      clear n1 n2 hE
      go_wp2
      rw [HF.out.1, HF.out.2.1, HF.out.2.2]
      exact bodyPost_ret (v := .tuple #[.agg #[.int .i64 (sVal (ngt a b) ua), .int .i64 (sVal false lb)], .int .i64 0]) (by simp [results, Try.results50, go_sem]) rfl ⟨rfl, by go_grown; exact below_box_drewN _ _ _⟩
theorem make_any (a b : Int) (w : World) (h1 : I64 a) (h2 : I64 b) :
    Calls Try.prog 50 #[.int .i64 a, .int .i64 b] w (FracOut (mkN a b) (mkD a b) (mkE a b) w) := by
  by_cases hb : b = 0
  · subst hb
    have e : mkE a 0 = 21 := by unfold mkE; rfl
    have e1 : mkN a 0 = 0 := by unfold mkN; rw [e]; rfl
    have e2 : mkD a 0 = 0 := by unfold mkD; rw [e]; rfl
    rw [e, e1, e2]; exact make_div a w
  · exact make_ok a b w h1 h2 hb
end Go.Proofs.Ythgdmcjahldihaa
