/- The contracts of the reference's common and Make (mapsheetsref01). -/
import Derived.Test.YtpdiojndfckmfaaNumC
namespace Go.Proofs.Ytpdiojndfckmfaa
open Go.RowKit
open Num
set_option linter.unusedVariables false

set_option maxHeartbeats 400000 in
theorem common_any (a b : Nat) (w : World) (ha : a < 18446744073709551616) (hb : b < 18446744073709551616) :
    Calls Try.prog 73 #[.int .u64 a, .int .u64 b] w fun e w' => e = .returned (.int .u64 (Nat.gcd a b)) ∧ ∃ n, w' = w.drewN n := by
  go_enter Try.func73, Try.ntmps73
  go_wp2_with fail
  go_loopw [0, 1] (fun u v wr => ∃ x y : Nat, x < 18446744073709551616 ∧ y < 18446744073709551616 ∧ u = .int .u64 x ∧ v = .int .u64 y ∧ Hid (Nat.gcd x y = Nat.gcd a b) ∧ Hid (∃ n, wr = w.drewN n)) (fun _ v _ => (intOf v).toNat)
  case atStart => exact ⟨a, b, ha, hb, rfl, rfl, Lib.hid rfl, Lib.hid ⟨0, rfl⟩⟩
  case round =>
    obtain ⟨x, y, hx, hy, rfl, rfl, HG, HW⟩ := hrel
    by_cases h0 : y = 0
    · subst h0
      go_wp2
      go_ret
      exact ⟨ret_int (by rw [← HG.out]; simp), HW.out⟩
    · have h1 : (0 : Int) < (y : Int) := by omega
      have h2 : (y : Int) ≠ 0 := by simpa using h0
      have h3 : (1 : Int) ≤ y := by omega
      have hm : x % y < y := Nat.mod_lt _ (by omega)
      go_wp2_with fail
      go_quiet (fail)
      go_wp2
      go_roundw
      case rel => exact ⟨y, x % y, hy, by omega, rfl, by first | rfl | go_num, Lib.hid (by rw [← HG.out, Nat.gcd_comm x y, Nat.gcd_rec y x, Nat.gcd_comm]), Lib.hid (by obtain ⟨k, hk⟩ := HW.out; exact ⟨k + nq, by rw [hk, World.drewN_drewN]⟩)⟩
      case measure => simp [intOf]; omega
theorem sg_eq (m neg : Bool) (n : Nat) (h : m = neg ∨ n = 0) : sgV m n = sVal neg n ∧ sgE m n = if sOk neg n = true then 0 else 15 := by
  rcases h with rfl | rfl
  · cases m <;> simp [sgV, sgE, sVal, sOk] <;> (try constructor) <;> (repeat' split) <;> omega
  · cases m <;> cases neg <;> decide
set_option maxHeartbeats 400000 in
theorem rmake_div (a : Int) (w : World) :
    Calls Try.prog 62 #[.int .i64 a, .int .i64 0] w (FracOut 0 0 21 w) := by
  go_enter Try.func62, Try.ntmps62
  go_wp2
  refine bodyPost_ret (v := .tuple #[.agg #[.int .i64 0, .int .i64 0], .int .i64 21]) (by simp [results, Try.results62, go_sem]) rfl ⟨rfl, by go_grown⟩
theorem upq_zero (b : Int) : upq 0 b = 0 := by unfold upq; simp

set_option maxHeartbeats 1000000 in
theorem rmake_ok (a b : Int) (w : World) (h1 : I64 a) (h2 : I64 b) (hb : b ≠ 0) :
    Calls Try.prog 62 #[.int .i64 a, .int .i64 b] w (FracOut (mkN a b) (mkD a b) (mkE a b) w) := by
  unfold I64 at h1 h2
  obtain ⟨h11, h12⟩ := h1
  obtain ⟨h21, h22⟩ := h2
  have hbe : (b == 0) = false := by simpa using hb
  have hg := gd_pos (a := a) hb
  have hu := upq_le a b
  have hl := loq_le a b
  have HB := Lib.hid hb
  have hgd : Nat.gcd a.natAbs b.natAbs = gd a b := rfl
  have QA := Lib.hid (show IntKind.u64.wrap ((a.natAbs : Int) / (gd a b : Int)) = (upq a b : Int) from quo_in a _ h11 h12)
  have QB := Lib.hid (show IntKind.u64.wrap ((b.natAbs : Int) / (gd a b : Int)) = (loq a b : Int) from quo_in b _ h21 h22)
  have HE : Hid (mkE a b = if (sOk (ngt a b) (upq a b) && sOk false (loq a b)) = true then 0 else 15) := by
    apply Lib.hid; unfold mkE mkOk; rw [if_neg hb]
  have HN : Hid (mkE a b = 0 → mkN a b = sVal (ngt a b) (upq a b) ∧ mkD a b = sVal false (loq a b)) := by
    apply Lib.hid; intro h; unfold mkN mkD; rw [if_pos h, if_pos h]; exact ⟨rfl, rfl⟩
  have HN' : Hid (mkE a b ≠ 0 → mkN a b = 0 ∧ mkD a b = 0) := by
    apply Lib.hid; intro h; unfold mkN mkD; rw [if_neg h, if_neg h]; exact ⟨rfl, rfl⟩
  have HS : Hid (∀ m : Bool, (m = ngt a b ∨ a = 0) → sgV m (upq a b) = sVal (ngt a b) (upq a b) ∧ sgE m (upq a b) = if sOk (ngt a b) (upq a b) = true then 0 else 15) := by
    apply Lib.hid; intro m h; refine sg_eq m _ _ ?_; rcases h with h | h
    · exact .inl h
    · right; rw [h]; exact upq_zero b
  have HL : Hid (sgV false (loq a b) = sVal false (loq a b) ∧ sgE false (loq a b) = if sOk false (loq a b) = true then 0 else 15) := Lib.hid (sg_eq _ _ _ (.inl rfl))
  have HGD := Lib.hid hgd
  clear hb hgd
  generalize upq a b = ua at *
  generalize loq a b = lb at *
  generalize gd a b = g at *
  have g1 : (1 : Int) ≤ g := by omega
  have g0 : ((g : Int) = 0) = False := by simp; omega
  rcases sgn3 a with ⟨ha, d1, d2⟩ | ⟨ha, ha', d1, d2⟩ | ⟨ha, d1, d2⟩ <;> rcases sgn3 b with ⟨hc, d3, d4⟩ | ⟨hc, hc', d3, d4⟩ | ⟨hc, d3, d4⟩ <;> try (exfalso; have := HB.out; omega)
  case' inl.inl => have dn : (a != 0) = true := by rw [bne_iff_ne]; omega
  case' inl.inr.inr => have dn : (a != 0) = true := by rw [bne_iff_ne]; omega
  case' inr.inl.inl => have dn : (a != 0) = false := by simp; omega
  case' inr.inl.inr.inr => have dn : (a != 0) = false := by simp; omega
  case' inr.inr.inl => have dn : (a != 0) = true := by rw [bne_iff_ne]; omega
  case' inr.inr.inr.inr => have dn : (a != 0) = true := by rw [bne_iff_ne]; omega
  all_goals
    have hM : ∀ m : Bool, m = (ngt a b && (a != 0)) → (m = ngt a b ∨ a = 0) := by
      intro m h; rw [h, dn]; first | (left; simp; done) | (right; omega)
    have hv : ngt a b = (decide (a < 0) != decide (b < 0)) := rfl
    rw [d1, d3] at hv
    have HV := Lib.hid hv
    have HM := Lib.hid hM
    have DN := Lib.hid dn
    clear hM hv
    go_enter Try.func62, Try.ntmps62
    go_wp2_with fail
    refine (rsize_any a _ h11 h12).mono ?_
    rintro e w' ⟨rfl, rfl⟩
    go_wp2_with fail
    refine (rsize_any b _ h21 h22).mono ?_
    rintro e w' ⟨rfl, rfl⟩
    go_wp2_with fail
    refine (common_any a.natAbs b.natAbs _ (by omega) (by omega)).mono ?_
    rintro e w' ⟨rfl, n, rfl⟩
    rw [HGD.out]
    go_wp2_with fail
    refine (rsize_any a _ h11 h12).mono ?_
    rintro e w' ⟨rfl, rfl⟩
    go_wp2_with fail
    rw [QA.out]
    refine (rsigned_any _ _ _ (by omega) (by omega)).mono ?_
    rintro e w' ⟨rfl, rfl⟩
    rw [(HS.out _ (HM.out _ (by rw [HV.out, DN.out]; rfl))).1, (HS.out _ (HM.out _ (by rw [HV.out, DN.out]; rfl))).2]
    cases hs1 : sOk (ngt a b) ua
    · have hE : mkE a b = 15 := by rw [HE.out, hs1]; rfl
      obtain ⟨n1, n2⟩ := HN'.out (by rw [hE]; decide)
      have HF := Lib.hid (show mkN a b = 0 ∧ mkD a b = 0 ∧ mkE a b = 15 from ⟨n1, n2, hE⟩)
      clear n1 n2 hE
      rw [if_neg (by decide)]
      go_wp2_with fail
      refine (rsize_any b _ h21 h22).mono ?_
      rintro e w' ⟨rfl, rfl⟩
      go_wp2_with fail
      rw [QB.out]
      refine (rsigned_any _ _ _ (by omega) (by omega)).mono ?_
      rintro e w' ⟨rfl, rfl⟩
      go_wp2
      rw [HF.out.1, HF.out.2.1, HF.out.2.2]
      exact bodyPost_ret (v := .tuple #[.agg #[.int .i64 0, .int .i64 0], .int .i64 15]) (by simp [results, Try.results62, go_sem]) rfl ⟨rfl, by go_grown; exact below_box_drewN _ _ _⟩
    · rw [if_pos rfl]
      go_wp2_with fail
      refine (rsize_any b _ h21 h22).mono ?_
      rintro e w' ⟨rfl, rfl⟩
      go_wp2_with fail
      rw [QB.out]
      refine (rsigned_any _ _ _ (by omega) (by omega)).mono ?_
      rintro e w' ⟨rfl, rfl⟩
      rw [HL.out.1, HL.out.2]
      cases hs2 : sOk false lb
      · have hE : mkE a b = 15 := by rw [HE.out, hs1, hs2]; rfl
        obtain ⟨n1, n2⟩ := HN'.out (by rw [hE]; decide)
        have HF := Lib.hid (show mkN a b = 0 ∧ mkD a b = 0 ∧ mkE a b = 15 from ⟨n1, n2, hE⟩)
        clear n1 n2 hE
        rw [if_neg (by decide)]
        go_wp2
        rw [HF.out.1, HF.out.2.1, HF.out.2.2]
        exact bodyPost_ret (v := .tuple #[.agg #[.int .i64 0, .int .i64 0], .int .i64 15]) (by simp [results, Try.results62, go_sem]) rfl ⟨rfl, by go_grown; exact below_box_drewN _ _ _⟩
      · have hE : mkE a b = 0 := by rw [HE.out, hs1, hs2]; rfl
        obtain ⟨n1, n2⟩ := HN.out hE
        have HF := Lib.hid (show mkN a b = sVal (ngt a b) ua ∧ mkD a b = sVal false lb ∧ mkE a b = 0 from ⟨n1, n2, hE⟩)
        clear n1 n2 hE
        rw [if_pos rfl]
        go_wp2
        rw [HF.out.1, HF.out.2.1, HF.out.2.2]
        exact bodyPost_ret (v := .tuple #[.agg #[.int .i64 (sVal (ngt a b) ua), .int .i64 (sVal false lb)], .int .i64 0]) (by simp [results, Try.results62, go_sem]) rfl ⟨rfl, by go_grown; exact below_box_drewN _ _ _⟩
theorem rmake_any (a b : Int) (w : World) (h1 : I64 a) (h2 : I64 b) :
    Calls Try.prog 62 #[.int .i64 a, .int .i64 b] w (FracOut (mkN a b) (mkD a b) (mkE a b) w) := by
  by_cases hb : b = 0
  · subst hb
    have e : mkE a 0 = 21 := by unfold mkE; rfl
    have e1 : mkN a 0 = 0 := by unfold mkN; rw [e]; rfl
    have e2 : mkD a 0 = 0 := by unfold mkD; rw [e]; rfl
    rw [e, e1, e2]; exact rmake_div a w
  · exact rmake_ok a b w h1 h2 hb
end Go.Proofs.Ytpdiojndfckmfaa
