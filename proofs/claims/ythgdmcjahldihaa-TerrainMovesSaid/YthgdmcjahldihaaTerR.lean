/- TerrainMoves returns true: the walk. -/
import Derived.Test.YthgdmcjahldihaaTerQ
import Derived.Test.YthgdmcjahldihaaTerPlainG
namespace Go.Proofs.Ythgdmcjahldihaa
open Go.RowKit
set_option linter.unusedVariables false

theorem pkAll_move {x y W H S dx dy : Int} {n : Nat} {z : Nat → Int} (h : Ter.chk x y W H S n z = 0) (h2 : Ter.chk (x + dx) (y + dy) W H S n z = 0) : pkAll (x + dx) (y + dy) W H S n z = (pkAll x y W H S n z).map fun p => (p.1 + dx, p.2 + dy) := by
  unfold pkAll; rw [if_pos h, if_pos h2, Ter.pkL_move]
theorem pkAll_small {x y W H S : Int} {n : Nat} {z : Nat → Int} (h : Ter.chk x y W H S n z = 0) : ∀ p ∈ pkAll x y W H S n z, (-1048576 ≤ p.1 ∧ p.1 ≤ 70000000) ∧ (-1048576 ≤ p.2 ∧ p.2 ≤ 70000000) := by
  unfold pkAll; rw [if_pos h]
  obtain ⟨⟨⟨g1, g2⟩, ⟨g3, g4⟩, ⟨g5, g6⟩, ⟨g7, g8⟩, ⟨g9, g10⟩, -, -⟩, hw, -⟩ := Ter.chk_zero h
  exact Ter.pkL_small ⟨g1, g2⟩ ⟨g3, g4⟩ ⟨g9, g10⟩ ⟨by omega, by omega⟩ _ (Nat.mul_le_mul_right _ (by omega))
theorem alloc_new0 (w : World) (u v : Value) (t : TypeId) : (w.alloc (.cells #[u, v] t)).cell? ⟨w.heap.size, 0, none⟩ = some u ∧ (w.alloc (.cells #[u, v] t)).cell? ⟨w.heap.size, 1, none⟩ = some v := by
  constructor <;> simp
/-- the numbers of a move are in their ranges -/
def MvOk (dx dy px py : Int) : Prop := ((-1048576 ≤ dx ∧ dx ≤ 1048576) ∧ (-1048576 ≤ dy ∧ dy ≤ 1048576)) ∧ (-4194304 ≤ px ∧ px ≤ 4194304) ∧ (-4194304 ≤ py ∧ py ≤ 4194304)

set_option maxRecDepth 100000 in
set_option maxHeartbeats 2000000 in
theorem moves_yes (x y W H S : Int) (A : Option Addr) (n c : Nat) (z : Nat → Int) (dx dy px py : Int) (w : World) (hn : n ≤ 4200) (hcap : n ≤ c) (hcm : c ≤ maxLen) (hA : Ints w w.heap.size A n z) (hck : Ter.chk x y W H S n z = 0) (hok : MvOk dx dy px py) :
    Calls Try.prog 12 #[hgt x y W H S A n c, .agg #[.int .i64 dx, .int .i64 dy], .agg #[.int .i64 px, .int .i64 py]] w fun e w' => e = .returned (.bool true) ∧ Below w.heap.size w w' := by
  have HI := Lib.hid hA
  have HC := Lib.hid hck
  obtain ⟨⟨g1, g2⟩, ⟨g3, g4⟩, -, -, -, -, -⟩ := (Ter.chk_zero hck).1
  obtain ⟨⟨⟨o1, o2⟩, o3, o4⟩, ⟨o5, o6⟩, o7, o8⟩ := hok
  clear hA hck
  have t1 : decide (dx < -1048576) = false := by simp; omega
  have t2 : decide (1048576 < dx) = false := by simp; omega
  have t3 : decide (dy < -1048576) = false := by simp; omega
  have t4 : decide (1048576 < dy) = false := by simp; omega
  have t5 : decide (px < -4194304) = false := by simp; omega
  have t6 : decide (4194304 < px) = false := by simp; omega
  have t7 : decide (py < -4194304) = false := by simp; omega
  have t8 : decide (4194304 < py) = false := by simp; omega
  unfold hgt
  go_enter Try.func12, Try.ntmps12
  go_wp2_with fail
  refine (light_yes _ _ _ _ _ _ _ _ _ hn).mono ?_
  rintro e w1 ⟨rfl, hb1⟩
  have A1 := Lib.hid ((((HI.out.later (below_box _ _)).later (below_box _ _)).later (below_box _ _)).later hb1)
  have B1 := Lib.hid hb1
  have F1 := Lib.hid (below_step (below_step (below_step (below_box w _) (below_box _ _)) (below_box _ _)) hb1)
  obtain ⟨hcl, hfz⟩ := bcell hb1
  clear hb1
  go_wp2_with fail
  refine (tcheck_any x y W H S A n c z w1 hn A1.out).mono ?_
  rintro e w2 ⟨rfl, hb2⟩
  rw [HC.out]
  have A2 := Lib.hid (A1.out.later hb2)
  have B2 := Lib.hid (below_step B1.out hb2)
  have F2 := Lib.hid (below_step F1.out hb2)
  have hs2 : w.heap.size < w2.heap.size := by have := B2.out.size; simp at this; omega
  have hs2' : w.heap.size + 1 < w2.heap.size := by have := B2.out.size; simp at this; omega
  have hs2'' : w.heap.size + 1 + 1 < w2.heap.size := by have := B2.out.size; simp at this; omega
  clear hb2 hcl hfz t1 t2 t3 t4 t5 t6 t7 t8 A1 B1 F1
  obtain ⟨hcl, hfz⟩ := bcell B2.out
  go_wp2_with fail
  refine (tcheck_any (x + dx) (y + dy) W H S A n c z _ hn (A2.out.later (below_box _ _))).mono ?_
  rintro e w3 ⟨rfl, hb3⟩
  have A3 := Lib.hid ((A2.out.later (below_box _ (.cells #[.int .i64 (x + dx), .int .i64 (y + dy), .int .i64 W, .int .i64 H, .int .i64 S, .slice A n c] 26))).later hb3)
  have K3 := Lib.hid hb3
  have B3 := Lib.hid (below_step (below_step B2.out (below_box _ (.cells #[.int .i64 (x + dx), .int .i64 (y + dy), .int .i64 W, .int .i64 H, .int .i64 S, .slice A n c] 26))) hb3)
  have F3 := Lib.hid (below_step (below_step F2.out (below_box _ (.cells #[.int .i64 (x + dx), .int .i64 (y + dy), .int .i64 W, .int .i64 H, .int .i64 S, .slice A n c] 26))) hb3)
  clear hb3 hcl hfz A2 B2 F2
  by_cases hck : Ter.chk (x + dx) (y + dy) W H S n z = 0
  · have HC2 := Lib.hid hck
    rw [hck]
    clear hck
    obtain ⟨R1, R2, R3⟩ := Ter.hg_move (px := px) (py := py) HC.out HC2.out
    have HR1 := Lib.hid R1
    have HR2 := Lib.hid R2
    have HR3 := Lib.hid R3
    have HP := Lib.hid (pkAll_move HC.out HC2.out)
    have HSM := Lib.hid (pkAll_small HC.out)
    have hpl := pkAll_len (x := x) (y := y) (W := W) (H := H) (S := S) (n := n) (z := z) hn
    clear R1 R2 R3
    have T1 := Lib.hid (fun v => Height_any x y W H S px py A n c z v hn hcap hcm)
    have T2 := Lib.hid (fun v => Height_any (x + dx) (y + dy) W H S (px + dx) (py + dy) A n c z v hn hcap hcm)
    have T3 := Lib.hid (fun v => Peaks_any x y W H S A n c z v hn hcap hcm)
    have T4 := Lib.hid (fun v => Peaks_any (x + dx) (y + dy) W H S A n c z v hn hcap hcm)
    rw [HR1.out, HR2.out, HR3.out] at T2
    rw [HP.out, HC2.out] at T4
    rw [HC.out] at T3
    generalize Ter.hgE x y W H S n z px py = vE at *
    generalize Ter.hgN x y W H S n z px py = vN at *
    generalize Ter.hgD x y W H S n z px py = vD at *
    generalize pkAll x y W H S n z = L at *
    clear HR1 HR2 HR3 HP
    unfold hgt at T1 T2 T3 T4
    obtain ⟨hcl, hfz⟩ := bcell B3.out
    go_wp2_with fail
    refine (T1.out _ A3.out).mono ?_
    rintro e w4 ⟨rfl, hb4⟩
    have A4 := Lib.hid ((A3.out.later hb4).later (below_box _ (.cells #[.int .i64 vN, .int .i64 vD] 44)))
    have K4 := Lib.hid (below_step K3.out hb4)
    have B4 := Lib.hid (below_step B3.out hb4)
    have F4 := Lib.hid (below_step F3.out hb4)
    have hs4 : w2.heap.size < w4.heap.size := by have := K4.out.size; simp at this; omega
    have hs4a : w.heap.size < w4.heap.size := by omega
    have hs4b : w.heap.size + 1 < w4.heap.size := by omega
    have hs4c : w.heap.size + 1 + 1 < w4.heap.size := by omega
    clear hb4 hcl hfz A3 K3 B3 F3
    obtain ⟨hcl, hfz⟩ := bcell B4.out
    have gx : ∀ o, w4.cell? ⟨w2.heap.size, o, none⟩ = (w2.alloc (.cells #[.int .i64 (x + dx), .int .i64 (y + dy), .int .i64 W, .int .i64 H, .int .i64 S, .slice A n c] 26)).cell? ⟨w2.heap.size, o, none⟩ := fun o => (bcell K4.out).1 _ _ (by simp)
    go_wp2_with fail
    refine (T2.out _ A4.out).mono ?_
    rintro e w5 ⟨rfl, hb5⟩
    have A5 := Lib.hid ((A4.out.later hb5).later (below_box _ (.cells #[.int .i64 vN, .int .i64 vD] 44)))
    have K5 := Lib.hid (below_step (below_step K4.out (below_box _ (.cells #[.int .i64 vN, .int .i64 vD] 44))) hb5)
    have B5 := Lib.hid (below_step (below_step B4.out (below_box _ (.cells #[.int .i64 vN, .int .i64 vD] 44))) hb5)
    have F5 := Lib.hid (below_step (below_step F4.out (below_box _ (.cells #[.int .i64 vN, .int .i64 vD] 44))) hb5)
    have KA5 := Lib.hid hb5
    have hs45 : w4.heap.size < w5.heap.size := by have := hb5.size; simp at this; omega
    have hs5 : w2.heap.size < w5.heap.size := by omega
    have hs5a : w.heap.size < w5.heap.size := by omega
    clear hb5 hcl hfz gx A4 K4 B4 F4
    obtain ⟨hcl, hfz⟩ := bcell B5.out
    go_wp2_with fail
    refine (T3.out _ A5.out).mono ?_
    rintro e w6 ⟨a1, ca1, rfl, hp6, hb6⟩
    have P6 := Lib.hid hp6
    have A6 := Lib.hid (A5.out.later hb6)
    have K6 := Lib.hid (below_step (below_step K5.out (below_box _ (.cells #[.int .i64 vN, .int .i64 vD] 44))) hb6)
    have B6 := Lib.hid (below_step (below_step B5.out (below_box _ (.cells #[.int .i64 vN, .int .i64 vD] 44))) hb6)
    have F6 := Lib.hid (below_step (below_step F5.out (below_box _ (.cells #[.int .i64 vN, .int .i64 vD] 44))) hb6)
    have KB6 := Lib.hid hb6
    clear hb6 hp6 hcl hfz A5 K5 B5 F5
    have gx : ∀ o, w6.cell? ⟨w2.heap.size, o, none⟩ = (w2.alloc (.cells #[.int .i64 (x + dx), .int .i64 (y + dy), .int .i64 W, .int .i64 H, .int .i64 S, .slice A n c] 26)).cell? ⟨w2.heap.size, o, none⟩ := fun o => (bcell K6.out).1 _ _ (by simp)
    go_wp2_with fail
    refine (T4.out _ A6.out).mono ?_
    rintro e w7 ⟨a2, ca2, rfl, hp7, hb7⟩
    rw [List.length_map]
    have P7 := Lib.hid (P6.out.later hb7)
    have Q7 := Lib.hid hp7
    have B7 := Lib.hid (below_step B6.out hb7)
    have F7 := Lib.hid (below_step F6.out hb7)
    have KB7 := Lib.hid (below_step KB6.out hb7)
    have KA7 := Lib.hid (below_step (below_step KA5.out (below_box _ (.cells #[.int .i64 vN, .int .i64 vD] 44))) KB7.out)
    have y0 : w7.cell? ⟨w4.heap.size, 0, none⟩ = some (.int .i64 vN) := by rw [(bcell KA7.out).1 _ _ (by simp)]; simp
    have y1 : w7.cell? ⟨w4.heap.size, 1, none⟩ = some (.int .i64 vD) := by rw [(bcell KA7.out).1 _ _ (by simp)]; simp
    have y2 : w7.cell? ⟨w5.heap.size, 0, none⟩ = some (.int .i64 vN) := by rw [(bcell KB7.out).1 _ _ (by simp)]; simp
    have y3 : w7.cell? ⟨w5.heap.size, 1, none⟩ = some (.int .i64 vD) := by rw [(bcell KB7.out).1 _ _ (by simp)]; simp
    clear hb7 hp7 gx A6 K6 B6 F6 P6 KB6 KA5 KA7 KB7
    go_wp2_with fail
    clear y0 y1 y2 y3
    have x0 : w7.cell? ⟨w.heap.size + 1, 0, none⟩ = some (.int .i64 dx) := by rw [(bcell B7.out).1 _ _ (by simp), World.cell?_alloc_past _ _ _ (by simp)]; simp
    have x1 : w7.cell? ⟨w.heap.size + 1, 1, none⟩ = some (.int .i64 dy) := by rw [(bcell B7.out).1 _ _ (by simp), World.cell?_alloc_past _ _ _ (by simp)]; simp
    go_loopw [16] (fun i wr => ∃ k : Nat, k ≤ L.length ∧ i = .int .i64 k ∧ Hid (∃ nn, wr = w7.drewN nn)) (fun i _ => L.length - (intOf i).toNat)
    case atStart => exact ⟨0, by omega, rfl, Lib.hid ⟨0, rfl⟩⟩
    case round =>
      obtain ⟨k, hk, rfl, HW⟩ := hrel
      by_cases hlt : k < L.length
      · obtain ⟨b1, q1, rfl, hb1, hc1⟩ := P7.out (by omega)
        obtain ⟨b2, q2, rfl, hb2, hc2⟩ := Q7.out (by rw [List.length_map]; omega)
        obtain ⟨nn, rfl⟩ := HW.out
        have u1 : w7.cell? ⟨b1, q1 + k * 2, none⟩ = some (.int .i64 L[k].1) := (hc1 k hlt).1
        have u2 : w7.cell? ⟨b1, q1 + k * 2 + 1, none⟩ = some (.int .i64 L[k].2) := (hc1 k hlt).2
        have u3 : w7.cell? ⟨b2, q2 + k * 2, none⟩ = some (.int .i64 (L[k].1 + dx)) := by have := (hc2 k (by rw [List.length_map]; exact hlt)).1; simpa using this
        have u4 : w7.cell? ⟨b2, q2 + k * 2 + 1, none⟩ = some (.int .i64 (L[k].2 + dy)) := by have := (hc2 k (by rw [List.length_map]; exact hlt)).2; simpa [Nat.add_assoc] using this
        obtain ⟨⟨m1, m2⟩, m3, m4⟩ := HSM.out L[k] (List.getElem_mem _)
        generalize L[k].1 = p1 at *
        generalize L[k].2 = p2 at *
        clear hc1 hc2 HW
        have v1 : (0 : Int) ≤ (k : Int) := by omega
        have v2 : (k : Int) < (L.length : Int) := by omega
        have s1 : IntKind.i64.wrap (p1 + dx - p1) = dx := by rw [show p1 + dx - p1 = dx by omega]; exact IntWalk.i64_in _ (by omega)
        have s2 : IntKind.i64.wrap (p2 + dy - p2) = dy := by rw [show p2 + dy - p2 = dy by omega]; exact IntWalk.i64_in _ (by omega)
        go_wp2_with fail
        go_quiet (fail)
        clear s1 s2
        go_wp2
        go_roundw
        case rel => exact ⟨k + 1, by omega, by go_num, Lib.hid ⟨_, rfl⟩⟩
        case measure => simp [intOf] <;> omega
      · have HF : Hid (Below w.heap.size w wr) := by obtain ⟨nn, h⟩ := HW.out; rw [h]; exact Lib.hid (below_drew F7.out _)
        clear x0 x1
        go_wp2_with fail
        refine (awake43 _).mono ?_
        rintro e w8 ⟨rfl, hb8⟩
        have F8 := Lib.hid (below_step HF.out hb8)
        clear hb8
        go_wp2
        go_ret
        exact ⟨rfl, F8.out⟩
  · have hckb : (Ter.chk (x + dx) (y + dy) W H S n z != 0) = true := by simpa using hck
    clear hck
    go_wp2_with fail
    refine (awake43 _).mono ?_
    rintro e w7 ⟨rfl, hb7⟩
    have F7 := Lib.hid (below_step F3.out hb7)
    clear hb7
    go_wp2
    go_ret
    exact ⟨rfl, F7.out⟩

set_option maxRecDepth 100000 in
set_option maxHeartbeats 1000000 in
theorem moves_no (x y W H S : Int) (A : Option Addr) (n c : Nat) (dx dy px py : Int) (w : World) (hn : ¬ n ≤ 4200) :
    Calls Try.prog 12 #[hgt x y W H S A n c, .agg #[.int .i64 dx, .int .i64 dy], .agg #[.int .i64 px, .int .i64 py]] w fun e w' => e = .returned (.bool true) ∧ Below w.heap.size w w' := by
  unfold hgt
  go_enter Try.func12, Try.ntmps12
  go_wp2_with fail
  refine (light_no _ _ _ _ _ _ _ _ _ hn).mono ?_
  rintro e w1 ⟨rfl, hb1⟩
  have F := Lib.hid (below_step (below_step (below_step (below_box w _) (below_box _ _)) (below_box _ _)) hb1)
  clear hb1
  go_wp2_with fail
  refine (awake43 _).mono ?_
  rintro e w2 ⟨rfl, hb2⟩
  have F2 := Lib.hid (below_step F.out hb2)
  clear hb2
  go_wp2
  go_ret
  exact ⟨rfl, F2.out⟩
set_option maxRecDepth 100000 in
set_option maxHeartbeats 2000000 in
theorem moves_out (x y W H S : Int) (A : Option Addr) (n c : Nat) (z : Nat → Int) (dx dy px py : Int) (w : World) (hn : n ≤ 4200) (hA : Ints w w.heap.size A n z) (h : ¬ (Ter.chk x y W H S n z = 0 ∧ MvOk dx dy px py)) :
    Calls Try.prog 12 #[hgt x y W H S A n c, .agg #[.int .i64 dx, .int .i64 dy], .agg #[.int .i64 px, .int .i64 py]] w fun e w' => e = .returned (.bool true) ∧ Below w.heap.size w w' := by
  have HH := Lib.hid h
  have HI := Lib.hid hA
  clear h hA
  unfold hgt
  go_enter Try.func12, Try.ntmps12
  go_wp2_with fail
  refine (light_yes _ _ _ _ _ _ _ _ _ hn).mono ?_
  rintro e w1 ⟨rfl, hb1⟩
  have A1 := Lib.hid ((((HI.out.later (below_box _ _)).later (below_box _ _)).later (below_box _ _)).later hb1)
  have F1 := Lib.hid (below_step (below_step (below_step (below_box w _) (below_box _ _)) (below_box _ _)) hb1)
  obtain ⟨hcl, hfz⟩ := bcell hb1
  clear hb1
  go_wp2_with fail
  all_goals first
    | ((with_reducible refine (awake43 _).mono ?_)
       rintro e w3 ⟨rfl, hb3⟩
       have F3 := Lib.hid (below_step F1.out hb3)
       clear hb3
       go_wp2
       go_ret
       exact ⟨rfl, F3.out⟩)
    | ((with_reducible refine (tcheck_any x y W H S A n c z w1 hn A1.out).mono ?_)
       rintro e w2 ⟨rfl, hb2⟩
       have hck : (Ter.chk x y W H S n z != 0) = true := by
         rw [bne_iff_ne]; intro hx
         exact HH.out ⟨hx, ⟨⟨by omega, by omega⟩, by omega, by omega⟩, ⟨by omega, by omega⟩, by omega, by omega⟩
       have F2 := Lib.hid (below_step F1.out hb2)
       clear hb2
       go_wp2_with fail
       refine (awake43 _).mono ?_
       rintro e w3 ⟨rfl, hb3⟩
       have F3 := Lib.hid (below_step F2.out hb3)
       clear hb3
       go_wp2
       go_ret
       exact ⟨rfl, F3.out⟩)
theorem moves_any (x y W H S : Int) (A : Option Addr) (n c : Nat) (z : Nat → Int) (dx dy px py : Int) (w : World) (hcap : n ≤ c) (hcm : c ≤ maxLen) (hA : Ints w w.heap.size A n z) :
    Calls Try.prog 12 #[hgt x y W H S A n c, .agg #[.int .i64 dx, .int .i64 dy], .agg #[.int .i64 px, .int .i64 py]] w fun e w' => e = .returned (.bool true) ∧ Below w.heap.size w w' := by
  by_cases hn : n ≤ 4200
  · by_cases h : Ter.chk x y W H S n z = 0 ∧ MvOk dx dy px py
    · exact moves_yes x y W H S A n c z dx dy px py w hn hcap hcm hA h.1 h.2
    · exact moves_out x y W H S A n c z dx dy px py w hn hA h
  · exact moves_no x y W H S A n c dx dy px py w hn
end Go.Proofs.Ythgdmcjahldihaa
