/- The contract of ink.Paint. -/
import Derived.Test.YtjclioakdmilmaaInkM
import Derived.Test.YtjclioakdmilmaaInkPlainF
import Derived.Deep.OwnRows
namespace Go.Proofs.Ytjclioakdmilmaa
open Go.RowKit
open Num Ink
set_option linter.unusedVariables false
theorem clR_made (v : World) (n : Nat) (hn : n ≤ 65536) : ClR v.heap.size (List.replicate n 0) (.slice (some ⟨v.heap.size, 0, none⟩) n n) (v.alloc (.cells (madeCells #[.int .i64 0] n) 3)) := by
  have e : (madeCells #[.int .i64 0] n).toList = (List.replicate n (0 : Int)).map (Value.int .i64) := by
    rw [toList_madeCells_one, List.map_replicate]
  have h := World.ownsRow_lit (base := v.heap.size) (e := 3) (size := 1) v (madeCells #[.int .i64 0] n) n (Nat.le_refl _) (by unfold maxLen; omega) (by have := congrArg List.length e; simpa using this)
  rw [e] at h
  exact ⟨v.heap.size, n, by simp, by simp, by simpa using h⟩
theorem Drs.le {w : World} {B B' : Nat} {a : Option Addr} {D : List Dr} (h : Drs w B a D) (hB : B ≤ B') : Drs w B' a D := fun hn => by
  obtain ⟨b, off, e, h1, hc⟩ := h hn
  refine ⟨b, off, e, by omega, fun j hj => ?_⟩
  obtain ⟨pa, pc, h2, h3⟩ := hc j hj
  exact ⟨pa, pc, h2, h3.le hB⟩
theorem pl4_blk (w h : Int) (n : Nat) (g c : Nat → Nat) : (pl4 (fun _ => w) (fun _ => h) fun i => .slice (some ⟨g i, 0, none⟩) (blk n i).length (c i)) = .agg #[.int .i64 w, .int .i64 h, .slice (some ⟨g 0, 0, none⟩) n (c 0), .int .i64 w, .int .i64 h, .slice (some ⟨g 1, 0, none⟩) n (c 1), .int .i64 w, .int .i64 h, .slice (some ⟨g 2, 0, none⟩) n (c 2), .int .i64 w, .int .i64 h, .slice (some ⟨g 3, 0, none⟩) n (c 3)] := by
  unfold pl4 blk; simp
theorem Cl.ns4 {v : World} {o : Nat} {g c : Nat → Nat} {ws hs : Nat → Int} {vs : Nat → List Int} {base : Nat} (h : Cl v o 4 g c ws hs vs base) : Ns4 v (fun i => some ⟨g i, 0, none⟩) vs := fun i hi hn =>
  ⟨g i, 0, rfl, (h.glt i hi).2, fun j hj => by rw [Nat.zero_add, (h.own i hi).cellAt j (by omega), List.getElem?_map, List.getElem?_eq_getElem hj]; rfl⟩
theorem Ns4.set {u : World} {ad : Nat → Option Addr} {vs : Nat → List Int} (h : Ns4 u ad vs) {k : Nat} (hne : ∀ i, i < 4 → ∀ b o, ad i = some ⟨b, o, none⟩ → k < b) (x : Nat) (z : Value) : Ns4 (u.setCell ⟨k, x, none⟩ z) ad vs := fun i hi hn => by
  obtain ⟨b, off, e, hb, hc⟩ := h i hi hn
  refine ⟨b, off, e, by simpa using hb, fun j hj => ?_⟩
  rw [World.cell?_setCell_other _ _ _ _ (by intro q; injection q with q1 q2; have := hne i hi b off e; omega)]
  exact hc j hj
set_option maxRecDepth 100000 in
set_option maxHeartbeats 16000000 in
theorem Paint_any (w h : Int) (n : Nat) (D : List Dr) (da : Option Addr) (dc : Nat) (w0 : World) (hn : (sideB w && sideB h) = true → (n : Int) = w * h) (hD : Drs w0 w0.heap.size da D) (hDl : D.length ≤ 100000) :
    Calls Try.prog 17 #[.int .i64 w, .int .i64 h, .slice da D.length dc] w0 (PlR (pnW w h n D) (pnH w h n D) (pnV w h n D) (pnE w h n D) w0) := by
  have S1 := Lib.hid (fun v => side_any w v)
  have S2 := Lib.hid (fun v => side_any h v)
  have HD := Lib.hid hD
  have HN := Lib.hid hn
  have HRE : Hid (pnE w h n D = if (sideB w && sideB h) = false then 2 else ovE (fun _ => w) (fun _ => h) (blk n) D) := Lib.hid rfl
  have HRW : Hid (pnW w h n D = if (sideB w && sideB h) = false then fun _ => 0 else ovW (fun _ => w) (fun _ => h) (blk n) D) := Lib.hid rfl
  have HRH : Hid (pnH w h n D = if (sideB w && sideB h) = false then fun _ => 0 else ovH (fun _ => w) (fun _ => h) (blk n) D) := Lib.hid rfl
  have HRV : Hid (pnV w h n D = if (sideB w && sideB h) = false then fun _ => [] else ovV (fun _ => w) (fun _ => h) (blk n) D) := Lib.hid rfl
  generalize pnE w h n D = RE at *
  generalize pnW w h n D = RW at *
  generalize pnH w h n D = RH at *
  generalize pnV w h n D = RV at *
  clear hD hn
  go_enter Try.func17, Try.ntmps17
  go_upto_region 1 with fail
  have b1 := below_al w0 (.cells #[.int .i64 0, .int .i64 0, .slice none 0 0, .int .i64 0, .int .i64 0, .slice none 0 0, .int .i64 0, .int .i64 0, .slice none 0 0, .int .i64 0, .int .i64 0, .slice none 0 0] 41)
  have Z1 := Lib.hid (Z12.new w0 41)
  have F1 : Hid (∀ j, (w0.alloc (.cells #[.int .i64 0, .int .i64 0, .slice none 0 0, .int .i64 0, .int .i64 0, .slice none 0 0, .int .i64 0, .int .i64 0, .slice none 0 0, .int .i64 0, .int .i64 0, .slice none 0 0] 41)).frozen? ⟨w0.heap.size, j, none⟩ = false) := Lib.hid (fun j => by simp)
  have G1 := Lib.hid b1
  clear b1
  generalize w0.alloc (.cells #[.int .i64 0, .int .i64 0, .slice none 0 0, .int .i64 0, .int .i64 0, .slice none 0 0, .int .i64 0, .int .i64 0, .slice none 0 0, .int .i64 0, .int .i64 0, .slice none 0 0] 41) = v1 at *
  generalize hsz : w0.heap.size = sz at *
  have HSZ := Lib.hid hsz
  clear hsz
  go_wp2_with fail
  refine (S1.out _).mono ?_
  rintro e v2 ⟨rfl, b2⟩
  have Z2 := Lib.hid (Z1.out.later b2)
  have SZ2 : Hid (sz < v2.heap.size) := Lib.hid (by have := cell_lt Z1.out.1; have := b2.size; omega)
  have F2 : Hid (∀ j, v2.frozen? ⟨sz, j, none⟩ = false) := Lib.hid (fun j => (b2.frozen (p := ⟨sz, j, none⟩) (cell_lt Z1.out.1)).trans (F1.out j))
  have G2 := Lib.hid (G1.out.trans (b2.mono (by have := cell_lt Z1.out.1; omega)))
  clear b2 Z1 F1 G1 S1
  cases e1 : sideB w
  · have hs : (sideB w && sideB h) = false := by rw [e1]; rfl
    have hR := HRE.out.trans (if_pos hs)
    have r1 := HRW.out.trans (if_pos hs)
    have r2 := HRH.out.trans (if_pos hs)
    have r3 := HRV.out.trans (if_pos hs)
    subst r1 r2 r3 hR
    have PR : Hid (PlR (fun _ => 0) (fun _ => 0) (fun _ => []) 2 w0 (.returned (.tuple #[.agg #[.int .i64 0, .int .i64 0, .slice none 0 0, .int .i64 0, .int .i64 0, .slice none 0 0, .int .i64 0, .int .i64 0, .slice none 0 0, .int .i64 0, .int .i64 0, .slice none 0 0], .int .i64 2])) v2) := Lib.hid (plR_none 2 w0 v2 (by rw [HSZ.out]; exact G2.out))
    obtain ⟨h0, h1, h2, h3, h4, h5, h6, h7, h8, h9, h10, h11⟩ := Z2.out
    have f0 := F2.out
    have i0 := setCell_id h0
    have i1 := setCell_id h1
    have i2 := setCell_id h2
    have i3 := setCell_id h3
    have i4 := setCell_id h4
    have i5 := setCell_id h5
    have i6 := setCell_id h6
    have i7 := setCell_id h7
    have i8 := setCell_id h8
    have i9 := setCell_id h9
    have i10 := setCell_id h10
    have i11 := setCell_id h11
    clear HRE HRW HRH HRV hs HN S2
    go_wp2
    exact bodyPost_ret (v := .tuple #[.agg #[.int .i64 0, .int .i64 0, .slice none 0 0, .int .i64 0, .int .i64 0, .slice none 0 0, .int .i64 0, .int .i64 0, .slice none 0 0, .int .i64 0, .int .i64 0, .slice none 0 0], .int .i64 2]) (by simp [results, Try.results17, go_sem, h0, h1, h2, h3, h4, h5, h6, h7, h8, h9, h10, h11]) rfl PR.out
  go_wp2_with fail
  refine (S2.out _).mono ?_
  rintro e v3 ⟨rfl, b3⟩
  have Z3 := Lib.hid (Z2.out.later b3)
  have SZ3 : Hid (sz < v3.heap.size) := Lib.hid (by have := SZ2.out; have := b3.size; omega)
  have F3 : Hid (∀ j, v3.frozen? ⟨sz, j, none⟩ = false) := Lib.hid (fun j => (b3.frozen (p := ⟨sz, j, none⟩) SZ2.out).trans (F2.out j))
  have G3 := Lib.hid (G2.out.trans (b3.mono (by have := SZ2.out; omega)))
  clear b3 Z2 F2 G2 S2 SZ2
  cases e2 : sideB h
  · have hs : (sideB w && sideB h) = false := by rw [e1, e2]; rfl
    have hR := HRE.out.trans (if_pos hs)
    have r1 := HRW.out.trans (if_pos hs)
    have r2 := HRH.out.trans (if_pos hs)
    have r3 := HRV.out.trans (if_pos hs)
    subst r1 r2 r3 hR
    have PR : Hid (PlR (fun _ => 0) (fun _ => 0) (fun _ => []) 2 w0 (.returned (.tuple #[.agg #[.int .i64 0, .int .i64 0, .slice none 0 0, .int .i64 0, .int .i64 0, .slice none 0 0, .int .i64 0, .int .i64 0, .slice none 0 0, .int .i64 0, .int .i64 0, .slice none 0 0], .int .i64 2])) v3) := Lib.hid (plR_none 2 w0 v3 (by rw [HSZ.out]; exact G3.out))
    obtain ⟨h0, h1, h2, h3, h4, h5, h6, h7, h8, h9, h10, h11⟩ := Z3.out
    have f0 := F3.out
    have i0 := setCell_id h0
    have i1 := setCell_id h1
    have i2 := setCell_id h2
    have i3 := setCell_id h3
    have i4 := setCell_id h4
    have i5 := setCell_id h5
    have i6 := setCell_id h6
    have i7 := setCell_id h7
    have i8 := setCell_id h8
    have i9 := setCell_id h9
    have i10 := setCell_id h10
    have i11 := setCell_id h11
    clear HRE HRW HRH HRV hs HN
    go_wp2
    exact bodyPost_ret (v := .tuple #[.agg #[.int .i64 0, .int .i64 0, .slice none 0 0, .int .i64 0, .int .i64 0, .slice none 0 0, .int .i64 0, .int .i64 0, .slice none 0 0, .int .i64 0, .int .i64 0, .slice none 0 0], .int .i64 2]) (by simp [results, Try.results17, go_sem, h0, h1, h2, h3, h4, h5, h6, h7, h8, h9, h10, h11]) rfl PR.out
  have hs : ¬ (sideB w && sideB h) = false := by rw [e1, e2]; simp
  have hnn := HN.out (by rw [e1, e2]; rfl)
  have RQ : Hid (RE = ovE (fun _ => w) (fun _ => h) (blk n) D ∧ RW = ovW (fun _ => w) (fun _ => h) (blk n) D ∧ RH = ovH (fun _ => w) (fun _ => h) (blk n) D ∧ RV = ovV (fun _ => w) (fun _ => h) (blk n) D) := Lib.hid ⟨HRE.out.trans (if_neg hs), HRW.out.trans (if_neg hs), HRH.out.trans (if_neg hs), HRV.out.trans (if_neg hs)⟩
  clear HRE HRW HRH HRV hs HN
  rw [sideB_iff] at e1 e2
  have hn6 : n ≤ 65536 := n_le hnn ⟨by omega, e1.2⟩ ⟨by omega, e2.2⟩
  have HNN := Lib.hid hnn
  clear hnn
  go_upto_region 4 with fail
  have b4 := below_al v3 (.cells #[.int .i64 0, .int .i64 0, .slice none 0 0, .int .i64 0, .int .i64 0, .slice none 0 0, .int .i64 0, .int .i64 0, .slice none 0 0, .int .i64 0, .int .i64 0, .slice none 0 0] 41)
  have z4 := Z12.new v3 41
  have f4 : ∀ j, (v3.alloc (.cells #[.int .i64 0, .int .i64 0, .slice none 0 0, .int .i64 0, .int .i64 0, .slice none 0 0, .int .i64 0, .int .i64 0, .slice none 0 0, .int .i64 0, .int .i64 0, .slice none 0 0] 41)).frozen? ⟨v3.heap.size, j, none⟩ = false := fun j => by simp
  have sl4 : v3.heap.size < (v3.alloc (.cells #[.int .i64 0, .int .i64 0, .slice none 0 0, .int .i64 0, .int .i64 0, .slice none 0 0, .int .i64 0, .int .i64 0, .slice none 0 0, .int .i64 0, .int .i64 0, .slice none 0 0] 41)).heap.size := by simp
  have Z4 := Lib.hid (Z3.out.later b4)
  have F4 : Hid (∀ j, (v3.alloc (.cells #[.int .i64 0, .int .i64 0, .slice none 0 0, .int .i64 0, .int .i64 0, .slice none 0 0, .int .i64 0, .int .i64 0, .slice none 0 0, .int .i64 0, .int .i64 0, .slice none 0 0] 41)).frozen? ⟨sz, j, none⟩ = false) := Lib.hid (fun j => (b4.frozen (p := ⟨sz, j, none⟩) SZ3.out).trans (F3.out j))
  have G4 := Lib.hid (G3.out.trans (b4.mono (by have := SZ3.out; omega)))
  generalize v3.alloc (.cells #[.int .i64 0, .int .i64 0, .slice none 0 0, .int .i64 0, .int .i64 0, .slice none 0 0, .int .i64 0, .int .i64 0, .slice none 0 0, .int .i64 0, .int .i64 0, .slice none 0 0] 41) = v4 at *
  have L0 := Lib.hid (Cl.start (g := fun _ => 0) (c := fun _ => 0) (ws := fun _ => w) (hs := fun _ => h) (vs := blk n) z4 f4 sl4)
  clear b4 z4 f4 sl4 Z3 F3 G3
  generalize hob : v3.heap.size = ob at *
  have HOB := Lib.hid hob
  clear hob
  generalize hbs : v4.heap.size = bs at *
  have HBS := Lib.hid hbs
  clear hbs
  have SZB : Hid (sz < ob ∧ ob < bs) := Lib.hid ⟨SZ3.out, L0.out.ob⟩
  have MK := Lib.hid (fun v => run_make_row' (P := Try.prog) 38 3 (.int .i64 0) 8 Try.underlying38 Try.infoInt rfl .i64 .i64 n (by omega) (by omega) v)
  go_wp2_with fail
  go_loopw [19] (fun i wr => ∃ j : Nat, j ≤ 4 ∧ i = .int .i64 j ∧ Hid (∃ g c, Cl wr ob j g c (fun _ => w) (fun _ => h) (blk n) bs) ∧ Hid (Below ob v4 wr)) (fun i _ => 4 - (intOf i).toNat)
  case atStart => exact ⟨0, by omega, rfl, Lib.hid ⟨_, _, L0.out⟩, Lib.hid (Below.refl _ _)⟩
  case round =>
    obtain ⟨j, hj, rfl, HC, HW⟩ := hrel
    by_cases hlt : j < 4
    · have q1 : (0 : Int) ≤ (j : Int) := by omega
      have q2 : (j : Int) < 4 := by omega
      have hnn := HNN.out.symm
      have mk := MK.out
      have bz := below_al wr (.cells (madeCells #[.int .i64 0] n) 3)
      have HZ := Lib.hid (clR_made wr n hn6)
      obtain ⟨gg, gc, hC⟩ := HC.out
      have hC8 := hC.later bz
      obtain ⟨z0, e0⟩ := hC8.ex (j * 3) (by omega)
      obtain ⟨z1, e1'⟩ := hC8.ex (j * 3 + 1) (by omega)
      obtain ⟨z2, e2'⟩ := hC8.ex (j * 3 + 2) (by omega)
      have f0 := hC8.fo
      have HS := Lib.hid (hC8.step hlt (by have h1 := HW.out.size; have h2 := HBS.out; omega : bs ≤ wr.heap.size) (fun i hi => (hC.glt i hi).2) HZ.out)
      have HW8 := Lib.hid ((((HW.out.trans (bz.mono (by have h1 := HW.out.size; have h2 := HBS.out; have h3 := SZB.out; omega))).setCell (p := ⟨ob, j * 3, none⟩) (Nat.le_refl _) (.int .i64 w)).setCell (p := ⟨ob, j * 3 + 1, none⟩) (Nat.le_refl _) (.int .i64 h)).setCell (p := ⟨ob, j * 3 + 2, none⟩) (Nat.le_refl _) (.slice (some ⟨wr.heap.size, 0, none⟩) n n))
      clear hC hC8 HC HW bz HZ
      go_wp2
      go_roundw
      case rel => exact ⟨j + 1, by omega, by go_num, HS, HW8⟩
      case measure => simp [intOf] <;> omega
    · obtain rfl : j = 4 := by omega
      obtain ⟨g, c, hC⟩ := HC.out
      have HD9 := HD.out.old (G4.out.trans (HW.out.mono (by have := SZB.out; omega)))
      have OV := Over_any (fun _ => w) (fun _ => h) (fun i => some ⟨g i, 0, none⟩) c (blk n) D da dc wr hC.ns4 (fun i _ => by simpa [blk] using hn6) (fun i _ => by unfold I64; omega) (fun i _ => by unfold I64; omega) (HD9.le (by have h1 := HW.out.size; have h2 := HBS.out; have h3 := SZB.out; omega)) hDl
      rw [pl4_blk, ← RQ.out.1, ← RQ.out.2.1, ← RQ.out.2.2.1, ← RQ.out.2.2.2] at OV
      have OV := Lib.hid OV
      have h0 : wr.cell? ⟨ob, 0, none⟩ = some (.int .i64 w) := hC.wd 0 (by omega)
      have h1 : wr.cell? ⟨ob, 1, none⟩ = some (.int .i64 h) := hC.ht 0 (by omega)
      have h2 : wr.cell? ⟨ob, 2, none⟩ = some (.slice (some ⟨g 0, 0, none⟩) n (c 0)) := by have := hC.sl 0 (by omega); simpa [blk] using this
      have h3 : wr.cell? ⟨ob, 3, none⟩ = some (.int .i64 w) := hC.wd 1 (by omega)
      have h4 : wr.cell? ⟨ob, 4, none⟩ = some (.int .i64 h) := hC.ht 1 (by omega)
      have h5 : wr.cell? ⟨ob, 5, none⟩ = some (.slice (some ⟨g 1, 0, none⟩) n (c 1)) := by have := hC.sl 1 (by omega); simpa [blk] using this
      have h6 : wr.cell? ⟨ob, 6, none⟩ = some (.int .i64 w) := hC.wd 2 (by omega)
      have h7 : wr.cell? ⟨ob, 7, none⟩ = some (.int .i64 h) := hC.ht 2 (by omega)
      have h8 : wr.cell? ⟨ob, 8, none⟩ = some (.slice (some ⟨g 2, 0, none⟩) n (c 2)) := by have := hC.sl 2 (by omega); simpa [blk] using this
      have h9 : wr.cell? ⟨ob, 9, none⟩ = some (.int .i64 w) := hC.wd 3 (by omega)
      have h10 : wr.cell? ⟨ob, 10, none⟩ = some (.int .i64 h) := hC.ht 3 (by omega)
      have h11 : wr.cell? ⟨ob, 11, none⟩ = some (.slice (some ⟨g 3, 0, none⟩) n (c 3)) := by have := hC.sl 3 (by omega); simpa [blk] using this
      have SZ9 : Hid (sz < wr.heap.size) := Lib.hid (by have h1 := HW.out.size; have h2 := HBS.out; have h3 := SZB.out; omega)
      have SO : Hid (sz + 1 ≤ ob) := Lib.hid (by have h3 := SZB.out; omega)
      have HW9 := Lib.hid (HW.out.mono SO.out)
      have Z9 : Hid (Z12 wr sz) := Lib.hid (by
        obtain ⟨z0, z1, z2, z3, z4, z5, z6, z7, z8, z9, z10, z11⟩ := Z4.out
        have cc : ∀ x z, v4.cell? ⟨sz, x, none⟩ = some z → wr.cell? ⟨sz, x, none⟩ = some z := fun x z hz => (HW.out.cell (p := ⟨sz, x, none⟩) (by show sz < ob; have := SO.out; omega)).trans hz
        exact ⟨cc _ _ z0, cc _ _ z1, cc _ _ z2, cc _ _ z3, cc _ _ z4, cc _ _ z5, cc _ _ z6, cc _ _ z7, cc _ _ z8, cc _ _ z9, cc _ _ z10, cc _ _ z11⟩)
      have F9 : Hid (∀ j, wr.frozen? ⟨sz, j, none⟩ = false) := Lib.hid (fun j => (HW.out.frozen (p := ⟨sz, j, none⟩) (by show sz < ob; have := SO.out; omega)).trans (F4.out j))
      have G9 := Lib.hid (G4.out.trans (HW.out.mono (by have := SO.out; omega)))
      clear hC HD9 HC HW RQ Z4 F4 G4 L0 MK HW9
      rw [show ((4 : Nat) : Int) = (4 : Int) from rfl]
      go_wp2_with fail
      refine OV.out.mono ?_
      rintro e u ⟨ad, cp, rfl, hN, hfr, hb⟩
      have Z10 := Lib.hid (Z9.out.later hb)
      have F10 : Hid (∀ j, u.frozen? ⟨sz, j, none⟩ = false) := Lib.hid (fun j => (hb.frozen (p := ⟨sz, j, none⟩) SZ9.out).trans (F9.out j))
      have G10 := Lib.hid (G9.out.trans (hb.mono (by have := SZ9.out; omega)))
      have hfr2 : ∀ i, i < 4 → ∀ b o, ad i = some ⟨b, o, none⟩ → sz < b := fun i hi b o h => by have := hfr i hi b o h; have := SZ9.out; omega
      have HFR := Lib.hid hfr2
      have HNS := Lib.hid hN
      clear hN hfr hfr2 hb OV h0 h1 h2 h3 h4 h5 h6 h7 h8 h9 h10 h11 Z9 F9 G9
      obtain ⟨h0, h1, h2, h3, h4, h5, h6, h7, h8, h9, h10, h11⟩ := Z10.out
      have f0 := F10.out
      simp only [pl4]
      go_wp2_with fail
      have CC := World.cell?_setCells_in sz [.int .i64 (RW 0), .int .i64 (RH 0), .slice (ad 0) (RV 0).length (cp 0), .int .i64 (RW 1), .int .i64 (RH 1), .slice (ad 1) (RV 1).length (cp 1), .int .i64 (RW 2), .int .i64 (RH 2), .slice (ad 2) (RV 2).length (cp 2), .int .i64 (RW 3), .int .i64 (RH 3), .slice (ad 3) (RV 3).length (cp 3)] 0 u (fun j hj => by
        have hj' : j < 12 := by simpa using hj
        rw [Nat.zero_add]
        obtain rfl | rfl | rfl | rfl | rfl | rfl | rfl | rfl | rfl | rfl | rfl | rfl : j = 0 ∨ j = 1 ∨ j = 2 ∨ j = 3 ∨ j = 4 ∨ j = 5 ∨ j = 6 ∨ j = 7 ∨ j = 8 ∨ j = 9 ∨ j = 10 ∨ j = 11 := by omega
        · rw [h0]; rfl
        · rw [h1]; rfl
        · rw [h2]; rfl
        · rw [h3]; rfl
        · rw [h4]; rfl
        · rw [h5]; rfl
        · rw [h6]; rfl
        · rw [h7]; rfl
        · rw [h8]; rfl
        · rw [h9]; rfl
        · rw [h10]; rfl
        · rw [h11]; rfl)
      have k0 : ((((((((((((u.setCell ⟨sz, 0, none⟩ (.int .i64 (RW 0))).setCell ⟨sz, 1, none⟩ (.int .i64 (RH 0))).setCell ⟨sz, 2, none⟩ (.slice (ad 0) (RV 0).length (cp 0))).setCell ⟨sz, 3, none⟩ (.int .i64 (RW 1))).setCell ⟨sz, 4, none⟩ (.int .i64 (RH 1))).setCell ⟨sz, 5, none⟩ (.slice (ad 1) (RV 1).length (cp 1))).setCell ⟨sz, 6, none⟩ (.int .i64 (RW 2))).setCell ⟨sz, 7, none⟩ (.int .i64 (RH 2))).setCell ⟨sz, 8, none⟩ (.slice (ad 2) (RV 2).length (cp 2))).setCell ⟨sz, 9, none⟩ (.int .i64 (RW 3))).setCell ⟨sz, 10, none⟩ (.int .i64 (RH 3))).setCell ⟨sz, 11, none⟩ (.slice (ad 3) (RV 3).length (cp 3))).cell? ⟨sz, 0, none⟩ = some (.int .i64 (RW 0)) := CC 0 (by simp)
      have k1 : ((((((((((((u.setCell ⟨sz, 0, none⟩ (.int .i64 (RW 0))).setCell ⟨sz, 1, none⟩ (.int .i64 (RH 0))).setCell ⟨sz, 2, none⟩ (.slice (ad 0) (RV 0).length (cp 0))).setCell ⟨sz, 3, none⟩ (.int .i64 (RW 1))).setCell ⟨sz, 4, none⟩ (.int .i64 (RH 1))).setCell ⟨sz, 5, none⟩ (.slice (ad 1) (RV 1).length (cp 1))).setCell ⟨sz, 6, none⟩ (.int .i64 (RW 2))).setCell ⟨sz, 7, none⟩ (.int .i64 (RH 2))).setCell ⟨sz, 8, none⟩ (.slice (ad 2) (RV 2).length (cp 2))).setCell ⟨sz, 9, none⟩ (.int .i64 (RW 3))).setCell ⟨sz, 10, none⟩ (.int .i64 (RH 3))).setCell ⟨sz, 11, none⟩ (.slice (ad 3) (RV 3).length (cp 3))).cell? ⟨sz, 1, none⟩ = some (.int .i64 (RH 0)) := CC 1 (by simp)
      have k2 : ((((((((((((u.setCell ⟨sz, 0, none⟩ (.int .i64 (RW 0))).setCell ⟨sz, 1, none⟩ (.int .i64 (RH 0))).setCell ⟨sz, 2, none⟩ (.slice (ad 0) (RV 0).length (cp 0))).setCell ⟨sz, 3, none⟩ (.int .i64 (RW 1))).setCell ⟨sz, 4, none⟩ (.int .i64 (RH 1))).setCell ⟨sz, 5, none⟩ (.slice (ad 1) (RV 1).length (cp 1))).setCell ⟨sz, 6, none⟩ (.int .i64 (RW 2))).setCell ⟨sz, 7, none⟩ (.int .i64 (RH 2))).setCell ⟨sz, 8, none⟩ (.slice (ad 2) (RV 2).length (cp 2))).setCell ⟨sz, 9, none⟩ (.int .i64 (RW 3))).setCell ⟨sz, 10, none⟩ (.int .i64 (RH 3))).setCell ⟨sz, 11, none⟩ (.slice (ad 3) (RV 3).length (cp 3))).cell? ⟨sz, 2, none⟩ = some (.slice (ad 0) (RV 0).length (cp 0)) := CC 2 (by simp)
      have k3 : ((((((((((((u.setCell ⟨sz, 0, none⟩ (.int .i64 (RW 0))).setCell ⟨sz, 1, none⟩ (.int .i64 (RH 0))).setCell ⟨sz, 2, none⟩ (.slice (ad 0) (RV 0).length (cp 0))).setCell ⟨sz, 3, none⟩ (.int .i64 (RW 1))).setCell ⟨sz, 4, none⟩ (.int .i64 (RH 1))).setCell ⟨sz, 5, none⟩ (.slice (ad 1) (RV 1).length (cp 1))).setCell ⟨sz, 6, none⟩ (.int .i64 (RW 2))).setCell ⟨sz, 7, none⟩ (.int .i64 (RH 2))).setCell ⟨sz, 8, none⟩ (.slice (ad 2) (RV 2).length (cp 2))).setCell ⟨sz, 9, none⟩ (.int .i64 (RW 3))).setCell ⟨sz, 10, none⟩ (.int .i64 (RH 3))).setCell ⟨sz, 11, none⟩ (.slice (ad 3) (RV 3).length (cp 3))).cell? ⟨sz, 3, none⟩ = some (.int .i64 (RW 1)) := CC 3 (by simp)
      have k4 : ((((((((((((u.setCell ⟨sz, 0, none⟩ (.int .i64 (RW 0))).setCell ⟨sz, 1, none⟩ (.int .i64 (RH 0))).setCell ⟨sz, 2, none⟩ (.slice (ad 0) (RV 0).length (cp 0))).setCell ⟨sz, 3, none⟩ (.int .i64 (RW 1))).setCell ⟨sz, 4, none⟩ (.int .i64 (RH 1))).setCell ⟨sz, 5, none⟩ (.slice (ad 1) (RV 1).length (cp 1))).setCell ⟨sz, 6, none⟩ (.int .i64 (RW 2))).setCell ⟨sz, 7, none⟩ (.int .i64 (RH 2))).setCell ⟨sz, 8, none⟩ (.slice (ad 2) (RV 2).length (cp 2))).setCell ⟨sz, 9, none⟩ (.int .i64 (RW 3))).setCell ⟨sz, 10, none⟩ (.int .i64 (RH 3))).setCell ⟨sz, 11, none⟩ (.slice (ad 3) (RV 3).length (cp 3))).cell? ⟨sz, 4, none⟩ = some (.int .i64 (RH 1)) := CC 4 (by simp)
      have k5 : ((((((((((((u.setCell ⟨sz, 0, none⟩ (.int .i64 (RW 0))).setCell ⟨sz, 1, none⟩ (.int .i64 (RH 0))).setCell ⟨sz, 2, none⟩ (.slice (ad 0) (RV 0).length (cp 0))).setCell ⟨sz, 3, none⟩ (.int .i64 (RW 1))).setCell ⟨sz, 4, none⟩ (.int .i64 (RH 1))).setCell ⟨sz, 5, none⟩ (.slice (ad 1) (RV 1).length (cp 1))).setCell ⟨sz, 6, none⟩ (.int .i64 (RW 2))).setCell ⟨sz, 7, none⟩ (.int .i64 (RH 2))).setCell ⟨sz, 8, none⟩ (.slice (ad 2) (RV 2).length (cp 2))).setCell ⟨sz, 9, none⟩ (.int .i64 (RW 3))).setCell ⟨sz, 10, none⟩ (.int .i64 (RH 3))).setCell ⟨sz, 11, none⟩ (.slice (ad 3) (RV 3).length (cp 3))).cell? ⟨sz, 5, none⟩ = some (.slice (ad 1) (RV 1).length (cp 1)) := CC 5 (by simp)
      have k6 : ((((((((((((u.setCell ⟨sz, 0, none⟩ (.int .i64 (RW 0))).setCell ⟨sz, 1, none⟩ (.int .i64 (RH 0))).setCell ⟨sz, 2, none⟩ (.slice (ad 0) (RV 0).length (cp 0))).setCell ⟨sz, 3, none⟩ (.int .i64 (RW 1))).setCell ⟨sz, 4, none⟩ (.int .i64 (RH 1))).setCell ⟨sz, 5, none⟩ (.slice (ad 1) (RV 1).length (cp 1))).setCell ⟨sz, 6, none⟩ (.int .i64 (RW 2))).setCell ⟨sz, 7, none⟩ (.int .i64 (RH 2))).setCell ⟨sz, 8, none⟩ (.slice (ad 2) (RV 2).length (cp 2))).setCell ⟨sz, 9, none⟩ (.int .i64 (RW 3))).setCell ⟨sz, 10, none⟩ (.int .i64 (RH 3))).setCell ⟨sz, 11, none⟩ (.slice (ad 3) (RV 3).length (cp 3))).cell? ⟨sz, 6, none⟩ = some (.int .i64 (RW 2)) := CC 6 (by simp)
      have k7 : ((((((((((((u.setCell ⟨sz, 0, none⟩ (.int .i64 (RW 0))).setCell ⟨sz, 1, none⟩ (.int .i64 (RH 0))).setCell ⟨sz, 2, none⟩ (.slice (ad 0) (RV 0).length (cp 0))).setCell ⟨sz, 3, none⟩ (.int .i64 (RW 1))).setCell ⟨sz, 4, none⟩ (.int .i64 (RH 1))).setCell ⟨sz, 5, none⟩ (.slice (ad 1) (RV 1).length (cp 1))).setCell ⟨sz, 6, none⟩ (.int .i64 (RW 2))).setCell ⟨sz, 7, none⟩ (.int .i64 (RH 2))).setCell ⟨sz, 8, none⟩ (.slice (ad 2) (RV 2).length (cp 2))).setCell ⟨sz, 9, none⟩ (.int .i64 (RW 3))).setCell ⟨sz, 10, none⟩ (.int .i64 (RH 3))).setCell ⟨sz, 11, none⟩ (.slice (ad 3) (RV 3).length (cp 3))).cell? ⟨sz, 7, none⟩ = some (.int .i64 (RH 2)) := CC 7 (by simp)
      have k8 : ((((((((((((u.setCell ⟨sz, 0, none⟩ (.int .i64 (RW 0))).setCell ⟨sz, 1, none⟩ (.int .i64 (RH 0))).setCell ⟨sz, 2, none⟩ (.slice (ad 0) (RV 0).length (cp 0))).setCell ⟨sz, 3, none⟩ (.int .i64 (RW 1))).setCell ⟨sz, 4, none⟩ (.int .i64 (RH 1))).setCell ⟨sz, 5, none⟩ (.slice (ad 1) (RV 1).length (cp 1))).setCell ⟨sz, 6, none⟩ (.int .i64 (RW 2))).setCell ⟨sz, 7, none⟩ (.int .i64 (RH 2))).setCell ⟨sz, 8, none⟩ (.slice (ad 2) (RV 2).length (cp 2))).setCell ⟨sz, 9, none⟩ (.int .i64 (RW 3))).setCell ⟨sz, 10, none⟩ (.int .i64 (RH 3))).setCell ⟨sz, 11, none⟩ (.slice (ad 3) (RV 3).length (cp 3))).cell? ⟨sz, 8, none⟩ = some (.slice (ad 2) (RV 2).length (cp 2)) := CC 8 (by simp)
      have k9 : ((((((((((((u.setCell ⟨sz, 0, none⟩ (.int .i64 (RW 0))).setCell ⟨sz, 1, none⟩ (.int .i64 (RH 0))).setCell ⟨sz, 2, none⟩ (.slice (ad 0) (RV 0).length (cp 0))).setCell ⟨sz, 3, none⟩ (.int .i64 (RW 1))).setCell ⟨sz, 4, none⟩ (.int .i64 (RH 1))).setCell ⟨sz, 5, none⟩ (.slice (ad 1) (RV 1).length (cp 1))).setCell ⟨sz, 6, none⟩ (.int .i64 (RW 2))).setCell ⟨sz, 7, none⟩ (.int .i64 (RH 2))).setCell ⟨sz, 8, none⟩ (.slice (ad 2) (RV 2).length (cp 2))).setCell ⟨sz, 9, none⟩ (.int .i64 (RW 3))).setCell ⟨sz, 10, none⟩ (.int .i64 (RH 3))).setCell ⟨sz, 11, none⟩ (.slice (ad 3) (RV 3).length (cp 3))).cell? ⟨sz, 9, none⟩ = some (.int .i64 (RW 3)) := CC 9 (by simp)
      have k10 : ((((((((((((u.setCell ⟨sz, 0, none⟩ (.int .i64 (RW 0))).setCell ⟨sz, 1, none⟩ (.int .i64 (RH 0))).setCell ⟨sz, 2, none⟩ (.slice (ad 0) (RV 0).length (cp 0))).setCell ⟨sz, 3, none⟩ (.int .i64 (RW 1))).setCell ⟨sz, 4, none⟩ (.int .i64 (RH 1))).setCell ⟨sz, 5, none⟩ (.slice (ad 1) (RV 1).length (cp 1))).setCell ⟨sz, 6, none⟩ (.int .i64 (RW 2))).setCell ⟨sz, 7, none⟩ (.int .i64 (RH 2))).setCell ⟨sz, 8, none⟩ (.slice (ad 2) (RV 2).length (cp 2))).setCell ⟨sz, 9, none⟩ (.int .i64 (RW 3))).setCell ⟨sz, 10, none⟩ (.int .i64 (RH 3))).setCell ⟨sz, 11, none⟩ (.slice (ad 3) (RV 3).length (cp 3))).cell? ⟨sz, 10, none⟩ = some (.int .i64 (RH 3)) := CC 10 (by simp)
      have k11 : ((((((((((((u.setCell ⟨sz, 0, none⟩ (.int .i64 (RW 0))).setCell ⟨sz, 1, none⟩ (.int .i64 (RH 0))).setCell ⟨sz, 2, none⟩ (.slice (ad 0) (RV 0).length (cp 0))).setCell ⟨sz, 3, none⟩ (.int .i64 (RW 1))).setCell ⟨sz, 4, none⟩ (.int .i64 (RH 1))).setCell ⟨sz, 5, none⟩ (.slice (ad 1) (RV 1).length (cp 1))).setCell ⟨sz, 6, none⟩ (.int .i64 (RW 2))).setCell ⟨sz, 7, none⟩ (.int .i64 (RH 2))).setCell ⟨sz, 8, none⟩ (.slice (ad 2) (RV 2).length (cp 2))).setCell ⟨sz, 9, none⟩ (.int .i64 (RW 3))).setCell ⟨sz, 10, none⟩ (.int .i64 (RH 3))).setCell ⟨sz, 11, none⟩ (.slice (ad 3) (RV 3).length (cp 3))).cell? ⟨sz, 11, none⟩ = some (.slice (ad 3) (RV 3).length (cp 3)) := CC 11 (by simp)
      have PR : Hid (PlR RW RH RV RE w0 (.returned (.tuple #[.agg #[.int .i64 (RW 0), .int .i64 (RH 0), .slice (ad 0) (RV 0).length (cp 0), .int .i64 (RW 1), .int .i64 (RH 1), .slice (ad 1) (RV 1).length (cp 1), .int .i64 (RW 2), .int .i64 (RH 2), .slice (ad 2) (RV 2).length (cp 2), .int .i64 (RW 3), .int .i64 (RH 3), .slice (ad 3) (RV 3).length (cp 3)], .int .i64 RE])) ((((((((((((u.setCell ⟨sz, 0, none⟩ (.int .i64 (RW 0))).setCell ⟨sz, 1, none⟩ (.int .i64 (RH 0))).setCell ⟨sz, 2, none⟩ (.slice (ad 0) (RV 0).length (cp 0))).setCell ⟨sz, 3, none⟩ (.int .i64 (RW 1))).setCell ⟨sz, 4, none⟩ (.int .i64 (RH 1))).setCell ⟨sz, 5, none⟩ (.slice (ad 1) (RV 1).length (cp 1))).setCell ⟨sz, 6, none⟩ (.int .i64 (RW 2))).setCell ⟨sz, 7, none⟩ (.int .i64 (RH 2))).setCell ⟨sz, 8, none⟩ (.slice (ad 2) (RV 2).length (cp 2))).setCell ⟨sz, 9, none⟩ (.int .i64 (RW 3))).setCell ⟨sz, 10, none⟩ (.int .i64 (RH 3))).setCell ⟨sz, 11, none⟩ (.slice (ad 3) (RV 3).length (cp 3)))) := Lib.hid ⟨ad, cp, rfl, ((((((((((((HNS.out.set HFR.out 0 (.int .i64 (RW 0))).set HFR.out 1 (.int .i64 (RH 0))).set HFR.out 2 (.slice (ad 0) (RV 0).length (cp 0))).set HFR.out 3 (.int .i64 (RW 1))).set HFR.out 4 (.int .i64 (RH 1))).set HFR.out 5 (.slice (ad 1) (RV 1).length (cp 1))).set HFR.out 6 (.int .i64 (RW 2))).set HFR.out 7 (.int .i64 (RH 2))).set HFR.out 8 (.slice (ad 2) (RV 2).length (cp 2))).set HFR.out 9 (.int .i64 (RW 3))).set HFR.out 10 (.int .i64 (RH 3))).set HFR.out 11 (.slice (ad 3) (RV 3).length (cp 3))), fun i hi b o h => by have := HFR.out i hi b o h; have := HSZ.out; omega, by rw [HSZ.out]; exact ((((((((((((G10.out.setCell (p := ⟨sz, 0, none⟩) (Nat.le_refl _) (.int .i64 (RW 0))).setCell (p := ⟨sz, 1, none⟩) (Nat.le_refl _) (.int .i64 (RH 0))).setCell (p := ⟨sz, 2, none⟩) (Nat.le_refl _) (.slice (ad 0) (RV 0).length (cp 0))).setCell (p := ⟨sz, 3, none⟩) (Nat.le_refl _) (.int .i64 (RW 1))).setCell (p := ⟨sz, 4, none⟩) (Nat.le_refl _) (.int .i64 (RH 1))).setCell (p := ⟨sz, 5, none⟩) (Nat.le_refl _) (.slice (ad 1) (RV 1).length (cp 1))).setCell (p := ⟨sz, 6, none⟩) (Nat.le_refl _) (.int .i64 (RW 2))).setCell (p := ⟨sz, 7, none⟩) (Nat.le_refl _) (.int .i64 (RH 2))).setCell (p := ⟨sz, 8, none⟩) (Nat.le_refl _) (.slice (ad 2) (RV 2).length (cp 2))).setCell (p := ⟨sz, 9, none⟩) (Nat.le_refl _) (.int .i64 (RW 3))).setCell (p := ⟨sz, 10, none⟩) (Nat.le_refl _) (.int .i64 (RH 3))).setCell (p := ⟨sz, 11, none⟩) (Nat.le_refl _) (.slice (ad 3) (RV 3).length (cp 3)))⟩
      clear CC h0 h1 h2 h3 h4 h5 h6 h7 h8 h9 h10 h11 HNS HFR G10 Z10 F10 f0
      generalize ((((((((((((u.setCell ⟨sz, 0, none⟩ (.int .i64 (RW 0))).setCell ⟨sz, 1, none⟩ (.int .i64 (RH 0))).setCell ⟨sz, 2, none⟩ (.slice (ad 0) (RV 0).length (cp 0))).setCell ⟨sz, 3, none⟩ (.int .i64 (RW 1))).setCell ⟨sz, 4, none⟩ (.int .i64 (RH 1))).setCell ⟨sz, 5, none⟩ (.slice (ad 1) (RV 1).length (cp 1))).setCell ⟨sz, 6, none⟩ (.int .i64 (RW 2))).setCell ⟨sz, 7, none⟩ (.int .i64 (RH 2))).setCell ⟨sz, 8, none⟩ (.slice (ad 2) (RV 2).length (cp 2))).setCell ⟨sz, 9, none⟩ (.int .i64 (RW 3))).setCell ⟨sz, 10, none⟩ (.int .i64 (RH 3))).setCell ⟨sz, 11, none⟩ (.slice (ad 3) (RV 3).length (cp 3))) = U at *
      exact bodyPost_ret (v := .tuple #[.agg #[.int .i64 (RW 0), .int .i64 (RH 0), .slice (ad 0) (RV 0).length (cp 0), .int .i64 (RW 1), .int .i64 (RH 1), .slice (ad 1) (RV 1).length (cp 1), .int .i64 (RW 2), .int .i64 (RH 2), .slice (ad 2) (RV 2).length (cp 2), .int .i64 (RW 3), .int .i64 (RH 3), .slice (ad 3) (RV 3).length (cp 3)], .int .i64 RE]) (by simp [results, Try.results17, go_sem, k0, k1, k2, k3, k4, k5, k6, k7, k8, k9, k10, k11]) rfl PR.out
end Go.Proofs.Ytjclioakdmilmaa
