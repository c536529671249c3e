/- The contract of terrain.Peaks. -/
import Derived.Test.YthgdmcjahldihaaTerI
import Derived.Laws.AppendOwn
import Derived.Below
namespace Go.Proofs.Ythgdmcjahldihaa
open Go.RowKit
set_option linter.unusedVariables false

theorem Try.infoPt : (Try.prog.info? 23).map (fun i => (i.zero, i.size, i.bytes)) = some (some (.agg #[.int .i64 0, .int .i64 0]), 2, 16) := by kernel_rfl
/-- the cells of a list of points -/
def pcs (l : List (Int × Int)) : List Value := l.flatMap fun p => [.int .i64 p.1, .int .i64 p.2]
theorem pcs_len (l : List (Int × Int)) : (pcs l).length = l.length * 2 := by
  induction l with
  | nil => rfl
  | cons p l ih => simp [pcs] at ih ⊢; omega
theorem pcs_snoc (l : List (Int × Int)) (p : Int × Int) : pcs (l ++ [p]) = pcs l ++ [.int .i64 p.1, .int .i64 p.2] := by simp [pcs]
theorem pcs_get (l : List (Int × Int)) (j : Nat) (h : j < l.length) : (pcs l)[j * 2]? = some (.int .i64 l[j].1) ∧ (pcs l)[j * 2 + 1]? = some (.int .i64 l[j].2) := by
  induction l generalizing j with
  | nil => simp at h
  | cons p l ih =>
    have e : pcs (p :: l) = .int .i64 p.1 :: .int .i64 p.2 :: pcs l := by simp [pcs]
    rw [e]
    cases j with
    | zero => simp
    | succ j =>
      have := ih j (by simpa using h)
      rw [show (j + 1) * 2 = j * 2 + 1 + 1 by omega]
      simpa using this
/-- a slice of points holds a list -/
def Pts (w : World) (B : Nat) (a : Option Addr) (l : List (Int × Int)) : Prop :=
  0 < l.length → ∃ b off, a = some ⟨b, off, none⟩ ∧ b < B ∧ ∀ j (h : j < l.length), w.cell? ⟨b, off + j * 2, none⟩ = some (.int .i64 l[j].1) ∧ w.cell? ⟨b, off + (j * 2 + 1), none⟩ = some (.int .i64 l[j].2)
theorem Pts.later {w w' : World} {a : Option Addr} {l : List (Int × Int)} (h : Pts w w.heap.size a l) (hb : Below w.heap.size w w') : Pts w' w'.heap.size a l := fun hn => by
  obtain ⟨b, off, e, hB, hc⟩ := h hn
  have hs := hb.size
  exact ⟨b, off, e, by omega, fun j hj => ⟨(hb.cell (p := ⟨b, off + j * 2, none⟩) hB).trans (hc j hj).1, (hb.cell (p := ⟨b, off + (j * 2 + 1), none⟩) hB).trans (hc j hj).2⟩⟩
theorem own_pts {w : World} {base : Nat} {a : Option Addr} {cap : Nat} {l : List (Int × Int)} (h : w.ownsRow base 23 2 (.slice a l.length cap) l.length (pcs l)) : Pts w w.heap.size a l := fun hn => by
  rcases h.2 with ⟨-, h0⟩ | ⟨g, cap', cur, hv, hb, hg, hcap, hm, hcs, htk⟩
  · omega
  · have ha : a = some ⟨g, 0, none⟩ := by simp at hv; exact hv.1
    refine ⟨g, 0, ha, (Array.getElem?_eq_some_iff.1 hg).1, fun j hj => ?_⟩
    have hc1 := h.cells (g := g) (by rw [ha]; rfl) (j * 2) _ (pcs_get l j hj).1
    have hc2 := h.cells (g := g) (by rw [ha]; rfl) (j * 2 + 1) _ (pcs_get l j hj).2
    have e : ∀ i, (⟨g, 0, none⟩ : Addr).add i = ⟨g, 0 + i, none⟩ := fun i => by unfold Addr.add; split <;> simp_all
    rw [e] at hc1 hc2
    exact ⟨hc1, hc2⟩
/-- what Peaks returns -/
def PtsOut (l : List (Int × Int)) (E : Int) (w : World) (e : Ending) (w' : World) : Prop :=
  ∃ a cap, e = .returned (.tuple #[.slice a l.length cap, .int .i64 E]) ∧ Pts w' w'.heap.size a l ∧ Below w.heap.size w w'
/-- the list so far, of the call's own -/
def PkRel (w1 : World) (l : List (Int × Int)) (v : Value) (wr : World) : Prop :=
  ∃ a cap, v = .slice a l.length cap ∧ wr.ownsRow w1.heap.size 23 2 (.slice a l.length cap) l.length (pcs l) ∧ Below w1.heap.size w1 wr
theorem below_grown' {w w' : World} (h : Below w.heap.size w w') : w.grownBy w' none := ⟨h.os, h.tape, h.output, h.size, fun k hk _ => h.block k hk⟩
theorem own_later {w w' : World} {base : Nat} {a : Option Addr} {n cap : Nat} {xs : List Value} {e : TypeId} {s : Nat} (h : w.ownsRow base e s (.slice a n cap) n xs) (hb : Below w.heap.size w w') : w'.ownsRow base e s (.slice a n cap) n xs :=
  h.kept (below_grown' hb) (by cases hv : Value.ownBlock (.slice a n cap) <;> simp)

set_option maxHeartbeats 1000000 in
theorem Peaks_err (x y W H S : Int) (A : Option Addr) (n c : Nat) (z : Nat → Int) (w : World) (hn : n ≤ 4200) (hA : Ints w w.heap.size A n z) (h : Ter.chk x y W H S n z ≠ 0) :
    Calls Try.prog 33 #[hgt x y W H S A n c] w (PtsOut [] (Ter.chk x y W H S n z) w) := by
  have hb : (Ter.chk x y W H S n z != 0) = true := by simpa using h
  unfold hgt
  go_enter Try.func33, Try.ntmps33
  go_wp2_with fail
  refine (tcheck_any _ _ _ _ _ _ _ _ z _ hn (hA.later (below_box _ _))).mono ?_
  rintro e w1 ⟨rfl, hb1⟩
  have hfin := Lib.hid (below_step (below_box w _) hb1)
  clear hb1
  go_wp2
  go_ret2
  exact ⟨none, 0, rfl, fun h0 => absurd h0 (by simp), hfin.out⟩

set_option maxHeartbeats 1000000 in
theorem Peaks_ok (x y S : Int) (b off n c m q : Nat) (z : Nat → Int) (w : World) (hn : n ≤ 4200) (hcap : n ≤ c) (hcm : c ≤ maxLen) (hb : b < w.heap.size) (hA : ∀ j, j < n → w.cell? ⟨b, off + j, none⟩ = some (.int .i64 (z j))) (h : Ter.chk x y m q S n z = 0) :
    Calls Try.prog 33 #[hgt x y m q S (some ⟨b, off, none⟩) n c] w (PtsOut (Ter.pkL z m q x y S (q * m)) 0 w) := by
  have HN : Hid (n = m * q) := by have := (Ter.chk_zero h).2.1; exact Lib.hid (by exact_mod_cast this)
  obtain ⟨⟨g1, g2⟩, ⟨g3, g4⟩, ⟨g5, g6⟩, ⟨g7, g8⟩, ⟨g9, g10⟩, -, -⟩ := (Ter.chk_zero h).1
  have HC := Lib.hid h
  have HI : Ints w w.heap.size (some ⟨b, off, none⟩) n z := fun _ => ⟨b, off, rfl, hb, hA⟩
  have HX := Lib.hid hA
  obtain ⟨i0, hi, hz0, hz1, hz2⟩ := info_parts Try.infoPt
  clear h hA
  unfold hgt
  go_enter Try.func33, Try.ntmps33
  go_wp2_with fail
  refine (tcheck_any _ _ _ _ _ _ _ _ z _ hn (HI.later (below_box _ _))).mono ?_
  rintro e w1 ⟨rfl, hb1⟩
  rw [HC.out]
  have F1 := Lib.hid (below_step (below_box w _) hb1)
  have B1 := Lib.hid hb1
  have hs1 : w.heap.size < w1.heap.size := by have := hb1.size; simp at this; omega
  obtain ⟨hcl, hfz⟩ := bcell hb1
  clear hb1
  go_wp2_with fail
  clear hcl hfz
  go_loopw [13, 2] (fun i v wr => ∃ r : Nat, r ≤ q ∧ i = .int .i64 r ∧ PkRel w1 (Ter.pkL z m q x y S (r * m)) v wr) (fun i _ _ => q - (intOf i).toNat)
  case atStart => exact ⟨0, by omega, rfl, none, 0, by rw [Nat.zero_mul]; rfl, by rw [Nat.zero_mul]; exact World.ownsRow_nil _ _ _ _, Below.refl _ _⟩
  case round =>
    obtain ⟨r, hr, rfl, hrel⟩ := hrel
    by_cases hlt : r < q
    · have HR := Lib.hid hrel
      obtain ⟨a0, cap0, rfl, hown, hbl⟩ := hrel
      have bb : ∀ o, wr.cell? ⟨w.heap.size, o, none⟩ = (w.alloc (.cells #[.int .i64 x, .int .i64 y, .int .i64 m, .int .i64 q, .int .i64 S, .slice (some ⟨b, off, none⟩) n c] 26)).cell? ⟨w.heap.size, o, none⟩ := fun o => by
        rw [(bcell hbl).1 _ _ hs1, (bcell B1.out).1 _ _ (by simp)]
      clear hown hbl
      go_wp2_with fail
      clear bb
      go_loopw [18, 2] (fun i v wr => ∃ k : Nat, k ≤ m ∧ i = .int .i64 k ∧ PkRel w1 (Ter.pkL z m q x y S (r * m + k)) v wr) (fun i _ _ => m - (intOf i).toNat)
      case atStart => exact ⟨0, by omega, rfl, HR.out⟩
      case round =>
        clear HR
        rename_i wq _ _
        obtain ⟨k, hk, rfl, hrel⟩ := hrel
        by_cases hk1 : k < m
        · have HST := Lib.hid (show Ter.pkL z m q x y S (r * m + (k + 1)) = Ter.pkL z m q x y S (r * m + k) ++ Ter.pkO z m q x y S (r * m + k) from rfl)
          have HPO := Lib.hid (Ter.pkO_at z (q := q) x y S (r := r) hk1)
          have hlen : (Ter.pkL z m q x y S (r * m + k)).length ≤ 4200 := by
            have h1 := Ter.pkL_len z m q x y S (r * m + k)
            have h2 : r * m ≤ 63 * 64 := Nat.mul_le_mul (by omega) (by omega)
            omega
          generalize Ter.pkL z m q x y S (r * m + k) = l at *
          obtain ⟨a, cap, rfl, hown, hbl⟩ := hrel
          have OW := Lib.hid hown
          have BL := Lib.hid hbl
          have bb : ∀ o, wr.cell? ⟨w.heap.size, o, none⟩ = (w.alloc (.cells #[.int .i64 x, .int .i64 y, .int .i64 m, .int .i64 q, .int .i64 S, .slice (some ⟨b, off, none⟩) n c] 26)).cell? ⟨w.heap.size, o, none⟩ := fun o => by
            rw [(bcell hbl).1 _ _ hs1, (bcell B1.out).1 _ _ (by simp)]
          have hsr : w1.heap.size ≤ wr.heap.size := hbl.size
          have FX := Lib.hid (below_step F1.out hbl)
          clear hown hbl
          obtain ⟨p1, p2⟩ := Ter.mul_bound (a := k) (b := S) (A := 64) (B := 1048576) (by omega) (by omega) (by omega) (by omega)
          obtain ⟨p3, p4⟩ := Ter.mul_bound (a := r) (b := S) (A := 64) (B := 1048576) (by omega) (by omega) (by omega) (by omega)
          go_wp2_with fail
          refine (peak_any x y S b off n c m q k r z _ hn hcap hcm (by omega) (fun j hj => cell_in FX.out (HX.out j hj) hb) (by omega) (by omega) (by omega) HN.out hk1 hlt).mono ?_
          rintro e w2 ⟨rfl, hb2⟩
          have BL2 := Lib.hid (below_step BL.out hb2)
          have OW2 := Lib.hid (own_later OW.out hb2)
          have hs2 : w1.heap.size ≤ w2.heap.size := BL2.out.size
          clear bb BL OW hsr FX hb2
          cases hpk : Ter.pkB z m q k r
          · rw [hpk] at HPO
            have HR2 : Hid (PkRel w1 (Ter.pkL z m q x y S (r * m + (k + 1))) (.slice a l.length cap) w2) := Lib.hid (by rw [HST.out, HPO.out, if_neg (by decide), List.append_nil]; exact ⟨a, cap, rfl, OW2.out, BL2.out⟩)
            clear HPO OW2 BL2
            go_wp2
            go_roundw
            case rel => exact ⟨k + 1, by omega, by go_num, HR2.out⟩
            case measure => simp [intOf] <;> omega
          · rw [hpk] at HPO
            have bb : ∀ o, w2.cell? ⟨w.heap.size, o, none⟩ = (w.alloc (.cells #[.int .i64 x, .int .i64 y, .int .i64 m, .int .i64 q, .int .i64 S, .slice (some ⟨b, off, none⟩) n c] 26)).cell? ⟨w.heap.size, o, none⟩ := fun o => by
              rw [(bcell BL2.out).1 _ _ hs1, (bcell B1.out).1 _ _ (by simp)]
            go_wp2_with (at_builtin; refine wpList_append_own _ rfl _ _ 48 rfl w1.heap.size 23 i0 (.agg #[.int .i64 0, .int .i64 0]) 2 16 Try.underlying48 hi hz0 hz1 hz2 rfl (by decide) _ _ _ rfl (OW2.out.alloc _) ⟨w2.heap.size, 0, none⟩ 1 1 [.int .i64 (x + k * S), .int .i64 (y + r * S)] rfl rfl ?c1 ?c2 ?c3 ?c4 ?c5 ?_)
            case c1 =>
              intro j u hj
              match j, hj with
              | 0, hj => simp at hj; subst hj; simp [Addr.add]
              | 1, hj => simp at hj; subst hj; simp [Addr.add]
            case c2 => intro u hu; simp at hu; rcases hu with rfl | rfl <;> rfl
            case c3 => unfold maxLen; omega
            case c4 => omega
            case c5 => simp; omega
            intro v' w4 hown hgrow _
            have HR2 : Hid (PkRel w1 (Ter.pkL z m q x y S (r * m + (k + 1))) v' w4) := Lib.hid (by
              rw [HST.out, HPO.out, if_pos trivial]
              rw [← pcs_snoc l (x + k * S, y + r * S)] at hown
              rcases hown.2 with ⟨-, h0⟩ | ⟨g, cap', cur, hv, -⟩
              · omega
              · subst hv
                refine ⟨some ⟨g, 0, none⟩, cap', by simp, by simpa using hown, ?_⟩
                refine Below.grown (BL2.out.alloc hs2 _) hgrow (by simp; omega) fun j hj => ?_
                exact (OW2.out.lt j hj).1)
            clear HPO OW2 BL2 hown hgrow bb
            go_wp2
            go_roundw
            case rel => exact ⟨k + 1, by omega, by go_num, HR2.out⟩
            case measure => simp [intOf] <;> omega
        · have HM := Lib.hid (show k = m by omega)
          have HR2 := Lib.hid hrel
          clear hrel
          go_wp2
          go_roundw
          case rel => exact ⟨r + 1, by omega, by go_num, by have := HR2.out; rw [HM.out] at this; rw [Nat.add_mul, Nat.one_mul]; exact this⟩
          case measure => simp [intOf] <;> omega
    · have HQ := Lib.hid (show r = q by omega)
      obtain ⟨a, cap, rfl, hown, hbl⟩ := hrel
      have HP := Lib.hid (own_pts hown)
      have F2 := Lib.hid (below_step F1.out hbl)
      clear hown hbl
      go_wp2
      go_ret2
      have hp := HP.out
      rw [HQ.out] at hp ⊢
      exact ⟨a, cap, rfl, hp, F2.out⟩
end Go.Proofs.Ythgdmcjahldihaa
