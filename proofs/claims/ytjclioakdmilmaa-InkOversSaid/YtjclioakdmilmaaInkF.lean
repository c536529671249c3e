/- The contract of ink.Check. -/
import Derived.Test.YtjclioakdmilmaaInkE
import Derived.Deep.CutBlock
import Derived.Deep.DeepCutAuto
namespace Go.Proofs.Ytjclioakdmilmaa
open Go.RowKit
open Num Ink
set_option linter.unusedVariables false
theorem eq23z (a b c d : Int) (w : World) : (Op.equalIn 10000 23 (.agg #[.int .i64 a, .int .i64 b, .int .i64 c, .int .i64 d]) (.agg #[.int .i64 0, .int .i64 0, .int .i64 0, .int .i64 0])).run Try.prog w = .ok (z4 a b c d) w := by
  have u3 := Try.underlying3
  have a3 := Try.isAgg3
  have z3 := Try.sizeOf3
  have hS : Try.prog.underlying 23 = some (.struct (Try.prog.fieldsOf 23)) := by kernel_rfl
  have hp : Try.prog.stoodInHeld 23 = false := by kernel_rfl
  rw [show (10000 : Nat) = 9999 + 1 from rfl, run_equalIn_agg w 9999 23 _ _ hS hp]
  simp only [Program.fieldsOf, Try.underlying23]
  go_simp
  unfold z4
  by_cases h1 : a = 0 <;> by_cases h2 : b = 0 <;> by_cases h3 : c = 0 <;> by_cases h4 : d = 0 <;> simp [h1, h2, h3, h4]
theorem idx25_0 (a b c d : Value) (w : World) : (Instr.index 25 (.agg #[a, b, c, d]) (.int .i64 0)).run Try.prog w = .ok a w := by kernel_rfl
theorem idx25_1 (a b c d : Value) (w : World) : (Instr.index 25 (.agg #[a, b, c, d]) (.int .i64 1)).run Try.prog w = .ok b w := by kernel_rfl
theorem idx25_2 (a b c d : Value) (w : World) : (Instr.index 25 (.agg #[a, b, c, d]) (.int .i64 2)).run Try.prog w = .ok c w := by kernel_rfl
theorem idx25_3 (a b c d : Value) (w : World) : (Instr.index 25 (.agg #[a, b, c, d]) (.int .i64 3)).run Try.prog w = .ok d w := by kernel_rfl
/-- the cells of an operation in memory -/
def Dw (v : World) (g : Nat) (k x0 y0 x1 y1 : Int) (s : Value) (a b c d : Int) : Prop :=
  v.cell? ⟨g, 0, none⟩ = some (.int .i64 k) ∧ v.cell? ⟨g, 1, none⟩ = some (.int .i64 x0) ∧ v.cell? ⟨g, 2, none⟩ = some (.int .i64 y0) ∧ v.cell? ⟨g, 3, none⟩ = some (.int .i64 x1) ∧ v.cell? ⟨g, 4, none⟩ = some (.int .i64 y1) ∧
  v.cell? ⟨g, 5, none⟩ = some s ∧ v.cell? ⟨g, 6, none⟩ = some (.int .i64 a) ∧ v.cell? ⟨g, 7, none⟩ = some (.int .i64 b) ∧ v.cell? ⟨g, 8, none⟩ = some (.int .i64 c) ∧ v.cell? ⟨g, 9, none⟩ = some (.int .i64 d)
theorem Dw.later {v u : World} {g : Nat} {k x0 y0 x1 y1 : Int} {s : Value} {a b c d : Int} (h : Dw v g k x0 y0 x1 y1 s a b c d) (hb : Below v.heap.size v u) : Dw u g k x0 y0 x1 y1 s a b c d := by
  obtain ⟨h0, h1, h2, h3, h4, h5, h6, h7, h8, h9⟩ := h
  exact ⟨cell_on h0 hb, cell_on h1 hb, cell_on h2 hb, cell_on h3 hb, cell_on h4 hb, cell_on h5 hb, cell_on h6 hb, cell_on h7 hb, cell_on h8 hb, cell_on h9 hb⟩
theorem Dw.new (u : World) (k x0 y0 x1 y1 : Int) (s : Value) (a b c d : Int) (t : TypeId) : Dw (u.alloc (.cells #[.int .i64 k, .int .i64 x0, .int .i64 y0, .int .i64 x1, .int .i64 y1, s, .int .i64 a, .int .i64 b, .int .i64 c, .int .i64 d] t)) u.heap.size k x0 y0 x1 y1 s a b c d := by
  unfold Dw; simp
theorem nr_snoc (l : List (Int × Int)) (k : Nat) (h : ∀ j (h : j < l.length), j < k → nr l[j].1 l[j].2 = true) (hk : k < l.length) (ht : nr l[k].1 l[k].2 = true) : ∀ j (h : j < l.length), j < k + 1 → nr l[j].1 l[j].2 = true := by
  intro j hj hjk
  by_cases e : j < k
  · exact h j hj e
  · obtain rfl : j = k := by omega
    exact ht
set_option maxRecDepth 100000 in
set_option maxHeartbeats 8000000 in
theorem icheck_any (k x0 y0 x1 y1 : Int) (l : List (Int × Int)) (p : Option Addr) (cap : Nat) (a b c d : Int) (w : World) (hp : Pts w w.heap.size p l) :
    Calls Try.prog 9 #[dw k x0 y0 x1 y1 (.slice p l.length cap) a b c d] w fun e w' => e = .returned (.int .i64 (ckE k x0 y0 x1 y1 l a b c d)) ∧ Below w.heap.size w w' := by
  have HP := Lib.hid hp
  have D0 := Lib.hid (Dw.new w k x0 y0 x1 y1 (.slice p l.length cap) a b c d 27)
  have G0 := Lib.hid (below_al w (.cells #[.int .i64 k, .int .i64 x0, .int .i64 y0, .int .i64 x1, .int .i64 y1, .slice p l.length cap, .int .i64 a, .int .i64 b, .int .i64 c, .int .i64 d] 27))
  have E25 := Lib.hid (fun v => eq25z a b c d v)
  have E23 := Lib.hid (fun v => eq23z x0 y0 x1 y1 v)
  have HE : Hid (ckE k x0 y0 x1 y1 l a b c d = if k < 1 ∨ 3 < k then 9 else if bareB k (z4 x0 y0 x1 y1) l.length (z4 a b c d) = false then 1 else if 4096 < l.length then 3 else if ok4 a b c d = false then 2 else if ((nr x0 y0 && nr x1 y1) && l.all fun p => nr p.1 p.2) = false then 2 else 0) := Lib.hid rfl
  generalize ckE k x0 y0 x1 y1 l a b c d = R at *
  generalize z4 x0 y0 x1 y1 = bz at *
  generalize z4 a b c d = iz at *
  clear hp
  unfold dw
  go_enter Try.func9, Try.ntmps9
  go_upto_region 1 with fail
  generalize w.alloc (.cells #[.int .i64 k, .int .i64 x0, .int .i64 y0, .int .i64 x1, .int .i64 y1, .slice p l.length cap, .int .i64 a, .int .i64 b, .int .i64 c, .int .i64 d] 27) = v1 at *
  obtain ⟨h0, h1, h2, h3, h4, h5, h6, h7, h8, h9⟩ := D0.out
  have L1 := fun m : Later v1 => m.cell h1
  have L2 := fun m : Later v1 => m.cell h2
  have L3 := fun m : Later v1 => m.cell h3
  have L4 := fun m : Later v1 => m.cell h4
  have L5 := fun m : Later v1 => m.cell h5
  have L6 := fun m : Later v1 => m.cell h6
  have L7 := fun m : Later v1 => m.cell h7
  have L8 := fun m : Later v1 => m.cell h8
  have L9 := fun m : Later v1 => m.cell h9
  have X23 := E23.out
  have X25 := E25.out
  refine region_later (by kernel_rfl) (by kernel_rfl) ?_
  iterate 15 (go_big_quiet_want; go_big_quiet_op; go_big_quiet_on)
  refine wpQuiet_nil ?_
  refine later_end ?_
  intro m
  have D1 := Lib.hid (D0.out.later m.below)
  have G1 := Lib.hid (below_on G0.out m.below)
  clear L1 L2 L3 L4 L5 L6 L7 L8 L9 h0 h1 h2 h3 h4 h5 h6 h7 h8 h9 X23 X25 D0 G0 E23 E25
  generalize m.wd = v2 at *
  clear m
  obtain ⟨h0, h1, h2, h3, h4, h5, h6, h7, h8, h9⟩ := D1.out
  by_cases hk : k < 1 ∨ 3 < k
  · have hR := HE.out.trans (if_pos hk)
    have n1 : ¬ k = 1 := by omega
    have n2 : ¬ k = 2 := by omega
    have n3 : ¬ k = 3 := by omega
    clear HE hk h1 h2 h3 h4 h6 h7 h8 h9 D1
    subst hR
    go_wp2
    go_ret
    exact ⟨rfl, G1.out⟩
  have HE2 := Lib.hid (HE.out.trans (if_neg hk))
  clear HE
  have hk3 : k = 1 ∨ k = 2 ∨ k = 3 := by omega
  clear hk
  cases hb : bareB k bz l.length iz
  · have hR := HE2.out.trans (if_pos hb)
    subst hR
    clear HE2 h1 h2 h3 h4 h6 h7 h8 h9 D1
    rcases hk3 with rfl | rfl | rfl
    · have e : decide (l.length = 0) = false := by simpa [bareB] using hb
      have e2 : ((l.length : Int) == 0) = false := by simpa using e
      clear hb e
      go_wp2
      go_ret
      exact ⟨rfl, G1.out⟩
    · have e : bz = false ∨ l.length = 0 := by
        cases bz
        · exact .inl rfl
        · right; simpa [bareB] using hb
      clear hb
      rcases e with rfl | e
      · go_wp2
        go_ret
        exact ⟨rfl, G1.out⟩
      · have e2 : ((l.length : Int) == 0) = true := by simpa using e
        clear e
        cases bz
        · go_wp2
          go_ret
          exact ⟨rfl, G1.out⟩
        · go_wp2
          go_ret
          exact ⟨rfl, G1.out⟩
    · by_cases hn : l.length = 0
      · have e2 : ((l.length : Int) == 0) = true := by simpa using hn
        have hi : iz = false := by simpa [bareB, hn] using hb
        subst hi
        clear hb hn
        go_wp2
        go_ret
        exact ⟨rfl, G1.out⟩
      · have e2 : ((l.length : Int) == 0) = false := by simpa using hn
        clear hb hn
        go_wp2
        go_ret
        exact ⟨rfl, G1.out⟩
  have HE3 := Lib.hid (HE2.out.trans (if_neg (by simp [hb])))
  clear HE2
  rcases hk3 with rfl | rfl | rfl
  · have e2 : ((l.length : Int) == 0) = true := by simpa [bareB] using hb
    clear hb
    go_upto_region 13 with fail
    clear e2
    by_cases h4 : 4096 < l.length
    · have hR := HE3.out.trans (if_pos h4)
      have d1 : decide ((4096 : Int) < (l.length : Int)) = true := by simp; omega
      subst hR
      clear HE3 h4
      go_wp2
      go_ret
      exact ⟨rfl, G1.out⟩
    have d1 : decide ((4096 : Int) < (l.length : Int)) = false := by simp; omega
    have HE4 := Lib.hid (HE3.out.trans (if_neg h4))
    have HL := Lib.hid h4
    clear HE3 h4
    go_wp2_with fail
    go_loopw [49] (fun i wr => ∃ j : Nat, j ≤ 4 ∧ i = .int .i64 j ∧ wr = v2 ∧ Hid ((0 < j → okI a = true) ∧ (1 < j → okI b = true) ∧ (2 < j → okI c = true) ∧ (3 < j → okI d = true))) (fun i _ => 4 - (intOf i).toNat)
    case atStart => exact ⟨0, by omega, rfl, rfl, Lib.hid ⟨by omega, by omega, by omega, by omega⟩⟩
    case round =>
      obtain ⟨j, hj, rfl, rfl, HJ⟩ := hrel
      obtain rfl | rfl | rfl | rfl | rfl : j = 0 ∨ j = 1 ∨ j = 2 ∨ j = 3 ∨ j = 4 := by omega
      · have X := fun v => idx25_0 (.int .i64 a) (.int .i64 b) (.int .i64 c) (.int .i64 d) v
        by_cases hx : a < 0
        · have hR := HE4.out.trans (if_pos (show ok4 a b c d = false by have h : okI a = false := by { unfold okI; simp; omega }; unfold ok4; rw [h]; simp))
          subst hR
          have d2 : decide (a < 0) = true := by simpa using hx
          clear HE4 hx
          go_wp2
          go_ret
          exact ⟨rfl, G1.out⟩
        · have d2 : decide (a < 0) = false := by simpa using hx
          by_cases hy : 100 < a
          · have hR := HE4.out.trans (if_pos (show ok4 a b c d = false by have h : okI a = false := by { unfold okI; simp; omega }; unfold ok4; rw [h]; simp))
            subst hR
            have d3 : decide (100 < a) = true := by simpa using hy
            clear HE4 hx hy
            go_wp2
            go_ret
            exact ⟨rfl, G1.out⟩
          · have d3 : decide (100 < a) = false := by simpa using hy
            have hok : okI a = true := by unfold okI; simp; omega
            have HJ2 : Hid ((0 < 1 → okI a = true) ∧ (1 < 1 → okI b = true) ∧ (2 < 1 → okI c = true) ∧ (3 < 1 → okI d = true)) := Lib.hid (by have h := HJ.out; simp at h ⊢; simp [hok])
            clear HE4 hx hy hok HJ
            go_wp2
            go_roundw
            case rel => exact ⟨1, by omega, rfl, trivial, HJ2⟩
            case measure => simp [intOf] <;> omega
      · have X := fun v => idx25_1 (.int .i64 a) (.int .i64 b) (.int .i64 c) (.int .i64 d) v
        by_cases hx : b < 0
        · have hR := HE4.out.trans (if_pos (show ok4 a b c d = false by have h : okI b = false := by { unfold okI; simp; omega }; unfold ok4; rw [h]; simp))
          subst hR
          have d2 : decide (b < 0) = true := by simpa using hx
          clear HE4 hx
          go_wp2
          go_ret
          exact ⟨rfl, G1.out⟩
        · have d2 : decide (b < 0) = false := by simpa using hx
          by_cases hy : 100 < b
          · have hR := HE4.out.trans (if_pos (show ok4 a b c d = false by have h : okI b = false := by { unfold okI; simp; omega }; unfold ok4; rw [h]; simp))
            subst hR
            have d3 : decide (100 < b) = true := by simpa using hy
            clear HE4 hx hy
            go_wp2
            go_ret
            exact ⟨rfl, G1.out⟩
          · have d3 : decide (100 < b) = false := by simpa using hy
            have hok : okI b = true := by unfold okI; simp; omega
            have HJ2 : Hid ((0 < 2 → okI a = true) ∧ (1 < 2 → okI b = true) ∧ (2 < 2 → okI c = true) ∧ (3 < 2 → okI d = true)) := Lib.hid (by have h := HJ.out; simp at h ⊢; simp [hok, h])
            clear HE4 hx hy hok HJ
            go_wp2
            go_roundw
            case rel => exact ⟨2, by omega, rfl, trivial, HJ2⟩
            case measure => simp [intOf] <;> omega
      · have X := fun v => idx25_2 (.int .i64 a) (.int .i64 b) (.int .i64 c) (.int .i64 d) v
        by_cases hx : c < 0
        · have hR := HE4.out.trans (if_pos (show ok4 a b c d = false by have h : okI c = false := by { unfold okI; simp; omega }; unfold ok4; rw [h]; simp))
          subst hR
          have d2 : decide (c < 0) = true := by simpa using hx
          clear HE4 hx
          go_wp2
          go_ret
          exact ⟨rfl, G1.out⟩
        · have d2 : decide (c < 0) = false := by simpa using hx
          by_cases hy : 100 < c
          · have hR := HE4.out.trans (if_pos (show ok4 a b c d = false by have h : okI c = false := by { unfold okI; simp; omega }; unfold ok4; rw [h]; simp))
            subst hR
            have d3 : decide (100 < c) = true := by simpa using hy
            clear HE4 hx hy
            go_wp2
            go_ret
            exact ⟨rfl, G1.out⟩
          · have d3 : decide (100 < c) = false := by simpa using hy
            have hok : okI c = true := by unfold okI; simp; omega
            have HJ2 : Hid ((0 < 3 → okI a = true) ∧ (1 < 3 → okI b = true) ∧ (2 < 3 → okI c = true) ∧ (3 < 3 → okI d = true)) := Lib.hid (by have h := HJ.out; simp at h ⊢; simp [hok, h])
            clear HE4 hx hy hok HJ
            go_wp2
            go_roundw
            case rel => exact ⟨3, by omega, rfl, trivial, HJ2⟩
            case measure => simp [intOf] <;> omega
      · have X := fun v => idx25_3 (.int .i64 a) (.int .i64 b) (.int .i64 c) (.int .i64 d) v
        by_cases hx : d < 0
        · have hR := HE4.out.trans (if_pos (show ok4 a b c d = false by have h : okI d = false := by { unfold okI; simp; omega }; unfold ok4; rw [h]; simp))
          subst hR
          have d2 : decide (d < 0) = true := by simpa using hx
          clear HE4 hx
          go_wp2
          go_ret
          exact ⟨rfl, G1.out⟩
        · have d2 : decide (d < 0) = false := by simpa using hx
          by_cases hy : 100 < d
          · have hR := HE4.out.trans (if_pos (show ok4 a b c d = false by have h : okI d = false := by { unfold okI; simp; omega }; unfold ok4; rw [h]; simp))
            subst hR
            have d3 : decide (100 < d) = true := by simpa using hy
            clear HE4 hx hy
            go_wp2
            go_ret
            exact ⟨rfl, G1.out⟩
          · have d3 : decide (100 < d) = false := by simpa using hy
            have hok : okI d = true := by unfold okI; simp; omega
            have HJ2 : Hid ((0 < 4 → okI a = true) ∧ (1 < 4 → okI b = true) ∧ (2 < 4 → okI c = true) ∧ (3 < 4 → okI d = true)) := Lib.hid (by have h := HJ.out; simp at h ⊢; simp [hok, h])
            clear HE4 hx hy hok HJ
            go_wp2
            go_roundw
            case rel => exact ⟨4, by omega, rfl, trivial, HJ2⟩
            case measure => simp [intOf] <;> omega
      · have hok : ok4 a b c d = true := by have h := HJ.out; simp at h; unfold ok4; simp [h]
        have HE5 := Lib.hid (HE4.out.trans (if_neg (by simp [hok])))
        clear HE4 HJ hok
        have N1 := Lib.hid (near_any x0 y0)
        go_wp2_with fail
        refine (N1.out _).mono ?_
        rintro e w3 ⟨rfl, hb3⟩
        have D2 := Lib.hid (D1.out.later hb3)
        have G2 := Lib.hid (below_on G1.out hb3)
        clear hb3 N1 h0 h1 h2 h3 h4 h5 h6 h7 h8 h9 D1
        cases n1 : nr x0 y0
        · have hR := HE5.out.trans (if_pos (by simp [n1]))
          subst hR
          clear HE5 n1 D2
          go_wp2
          go_ret
          exact ⟨rfl, G2.out⟩
        · obtain ⟨h0, h1, h2, h3, h4, h5, h6, h7, h8, h9⟩ := D2.out
          have N2 := Lib.hid (near_any x1 y1)
          go_wp2_with fail
          refine (N2.out _).mono ?_
          rintro e w4 ⟨rfl, hb4⟩
          have D3 := Lib.hid (D2.out.later hb4)
          have G3 := Lib.hid (below_on G2.out hb4)
          clear hb4 N2 h0 h1 h2 h3 h4 h5 h6 h7 h8 h9 D2 G2
          cases n2 : nr x1 y1
          · have hR := HE5.out.trans (if_pos (by simp [n2]))
            subst hR
            clear HE5 n1 n2 D3
            go_wp2
            go_ret
            exact ⟨rfl, G3.out⟩
          · have HE6 : Hid (R = if (l.all fun p => nr p.1 p.2) = false then 2 else 0) := Lib.hid (by have h := HE5.out; rw [n1, n2, Bool.true_and, Bool.true_and] at h; exact h)
            clear HE5 n1 n2
            obtain ⟨h0, h1, h2, h3, h4, h5, h6, h7, h8, h9⟩ := D3.out
            clear h0 h1 h2 h3 h4 h6 h7 h8 h9 D3
            go_wp2_with fail
            clear h5
            go_loopw [82] (fun i wr => ∃ k : Nat, k ≤ l.length ∧ i = .int .i64 k ∧ Hid (∀ j (h : j < l.length), j < k → nr l[j].1 l[j].2 = true) ∧ Hid (Below w.heap.size w wr)) (fun i _ => l.length - (intOf i).toNat)
            case atStart => exact ⟨0, by omega, rfl, Lib.hid (fun j _ h => absurd h (by omega)), G3⟩
            case round =>
              obtain ⟨k, hk, rfl, HJ, HW⟩ := hrel
              by_cases hlt : k < l.length
              · obtain ⟨pb, off, rfl, hpb, hc⟩ := (HP.out.later HW.out) (by omega)
                have u1 : wr.cell? ⟨pb, off + k * 2, none⟩ = some (.int .i64 l[k].1) := (hc k hlt).1
                have u2 : wr.cell? ⟨pb, off + k * 2 + 1, none⟩ = some (.int .i64 l[k].2) := (hc k hlt).2
                have q1 : (0 : Int) ≤ (k : Int) := by omega
                have q2 : (k : Int) < (l.length : Int) := by omega
                have q3 : (l.length : Int) ≤ 4096 := by have := HL.out; omega
                have HN : Hid (nr l[k].1 l[k].2 = false → R = 2) := Lib.hid (fun hf => HE6.out.trans (if_pos (by rw [List.all_eq_false]; exact ⟨l[k], List.getElem_mem hlt, by simp [hf]⟩)))
                have HT : Hid (nr l[k].1 l[k].2 = true → ∀ j (h : j < l.length), j < k + 1 → nr l[j].1 l[j].2 = true) := Lib.hid (fun ht => nr_snoc l k HJ.out hlt ht)
                have N3 := Lib.hid (near_any l[k].1 l[k].2)
                generalize l[k].1 = x at *
                generalize l[k].2 = y at *
                clear hc HJ HP
                go_wp2_with fail
                refine (N3.out _).mono ?_
                rintro e w5 ⟨rfl, hb5⟩
                have HW2 := Lib.hid (below_on (below_on HW.out (below_al _ _)) hb5)
                clear hb5 N3 u1 u2 HW HE6
                cases n3 : nr x y
                · have hR := HN.out n3
                  subst hR
                  clear HN HT n3
                  go_wp2
                  go_ret
                  exact ⟨rfl, HW2.out⟩
                · have HT2 := Lib.hid (HT.out n3)
                  clear HN HT n3
                  go_wp2
                  go_roundw
                  case rel => exact ⟨k + 1, by omega, by go_num, HT2, HW2⟩
                  case measure => simp [intOf] <;> omega
              · have hall : (l.all fun p => nr p.1 p.2) = true := by
                  rw [List.all_eq_true]; intro x hx; obtain ⟨j, hj, rfl⟩ := List.getElem_of_mem hx; exact HJ.out j hj (by omega)
                have hR := HE6.out.trans (if_neg (by rw [hall]; simp))
                subst hR
                clear HE6 hall HJ
                go_wp2
                go_ret
                exact ⟨rfl, HW.out⟩
  · have hz : bz = true ∧ 0 < l.length := by simpa [bareB] using hb
    obtain ⟨rfl, hz⟩ := hz
    have e2 : ((l.length : Int) == 0) = false := by have h : (l.length : Int) ≠ 0 := by omega
                                                    simpa using h
    clear hb hz
    go_upto_region 13 with fail
    clear e2
    by_cases h4 : 4096 < l.length
    · have hR := HE3.out.trans (if_pos h4)
      have d1 : decide ((4096 : Int) < (l.length : Int)) = true := by simp; omega
      subst hR
      clear HE3 h4
      go_wp2
      go_ret
      exact ⟨rfl, G1.out⟩
    have d1 : decide ((4096 : Int) < (l.length : Int)) = false := by simp; omega
    have HE4 := Lib.hid (HE3.out.trans (if_neg h4))
    have HL := Lib.hid h4
    clear HE3 h4
    go_wp2_with fail
    go_loopw [49] (fun i wr => ∃ j : Nat, j ≤ 4 ∧ i = .int .i64 j ∧ wr = v2 ∧ Hid ((0 < j → okI a = true) ∧ (1 < j → okI b = true) ∧ (2 < j → okI c = true) ∧ (3 < j → okI d = true))) (fun i _ => 4 - (intOf i).toNat)
    case atStart => exact ⟨0, by omega, rfl, rfl, Lib.hid ⟨by omega, by omega, by omega, by omega⟩⟩
    case round =>
      obtain ⟨j, hj, rfl, rfl, HJ⟩ := hrel
      obtain rfl | rfl | rfl | rfl | rfl : j = 0 ∨ j = 1 ∨ j = 2 ∨ j = 3 ∨ j = 4 := by omega
      · have X := fun v => idx25_0 (.int .i64 a) (.int .i64 b) (.int .i64 c) (.int .i64 d) v
        by_cases hx : a < 0
        · have hR := HE4.out.trans (if_pos (show ok4 a b c d = false by have h : okI a = false := by { unfold okI; simp; omega }; unfold ok4; rw [h]; simp))
          subst hR
          have d2 : decide (a < 0) = true := by simpa using hx
          clear HE4 hx
          go_wp2
          go_ret
          exact ⟨rfl, G1.out⟩
        · have d2 : decide (a < 0) = false := by simpa using hx
          by_cases hy : 100 < a
          · have hR := HE4.out.trans (if_pos (show ok4 a b c d = false by have h : okI a = false := by { unfold okI; simp; omega }; unfold ok4; rw [h]; simp))
            subst hR
            have d3 : decide (100 < a) = true := by simpa using hy
            clear HE4 hx hy
            go_wp2
            go_ret
            exact ⟨rfl, G1.out⟩
          · have d3 : decide (100 < a) = false := by simpa using hy
            have hok : okI a = true := by unfold okI; simp; omega
            have HJ2 : Hid ((0 < 1 → okI a = true) ∧ (1 < 1 → okI b = true) ∧ (2 < 1 → okI c = true) ∧ (3 < 1 → okI d = true)) := Lib.hid (by have h := HJ.out; simp at h ⊢; simp [hok])
            clear HE4 hx hy hok HJ
            go_wp2
            go_roundw
            case rel => exact ⟨1, by omega, rfl, trivial, HJ2⟩
            case measure => simp [intOf] <;> omega
      · have X := fun v => idx25_1 (.int .i64 a) (.int .i64 b) (.int .i64 c) (.int .i64 d) v
        by_cases hx : b < 0
        · have hR := HE4.out.trans (if_pos (show ok4 a b c d = false by have h : okI b = false := by { unfold okI; simp; omega }; unfold ok4; rw [h]; simp))
          subst hR
          have d2 : decide (b < 0) = true := by simpa using hx
          clear HE4 hx
          go_wp2
          go_ret
          exact ⟨rfl, G1.out⟩
        · have d2 : decide (b < 0) = false := by simpa using hx
          by_cases hy : 100 < b
          · have hR := HE4.out.trans (if_pos (show ok4 a b c d = false by have h : okI b = false := by { unfold okI; simp; omega }; unfold ok4; rw [h]; simp))
            subst hR
            have d3 : decide (100 < b) = true := by simpa using hy
            clear HE4 hx hy
            go_wp2
            go_ret
            exact ⟨rfl, G1.out⟩
          · have d3 : decide (100 < b) = false := by simpa using hy
            have hok : okI b = true := by unfold okI; simp; omega
            have HJ2 : Hid ((0 < 2 → okI a = true) ∧ (1 < 2 → okI b = true) ∧ (2 < 2 → okI c = true) ∧ (3 < 2 → okI d = true)) := Lib.hid (by have h := HJ.out; simp at h ⊢; simp [hok, h])
            clear HE4 hx hy hok HJ
            go_wp2
            go_roundw
            case rel => exact ⟨2, by omega, rfl, trivial, HJ2⟩
            case measure => simp [intOf] <;> omega
      · have X := fun v => idx25_2 (.int .i64 a) (.int .i64 b) (.int .i64 c) (.int .i64 d) v
        by_cases hx : c < 0
        · have hR := HE4.out.trans (if_pos (show ok4 a b c d = false by have h : okI c = false := by { unfold okI; simp; omega }; unfold ok4; rw [h]; simp))
          subst hR
          have d2 : decide (c < 0) = true := by simpa using hx
          clear HE4 hx
          go_wp2
          go_ret
          exact ⟨rfl, G1.out⟩
        · have d2 : decide (c < 0) = false := by simpa using hx
          by_cases hy : 100 < c
          · have hR := HE4.out.trans (if_pos (show ok4 a b c d = false by have h : okI c = false := by { unfold okI; simp; omega }; unfold ok4; rw [h]; simp))
            subst hR
            have d3 : decide (100 < c) = true := by simpa using hy
            clear HE4 hx hy
            go_wp2
            go_ret
            exact ⟨rfl, G1.out⟩
          · have d3 : decide (100 < c) = false := by simpa using hy
            have hok : okI c = true := by unfold okI; simp; omega
            have HJ2 : Hid ((0 < 3 → okI a = true) ∧ (1 < 3 → okI b = true) ∧ (2 < 3 → okI c = true) ∧ (3 < 3 → okI d = true)) := Lib.hid (by have h := HJ.out; simp at h ⊢; simp [hok, h])
            clear HE4 hx hy hok HJ
            go_wp2
            go_roundw
            case rel => exact ⟨3, by omega, rfl, trivial, HJ2⟩
            case measure => simp [intOf] <;> omega
      · have X := fun v => idx25_3 (.int .i64 a) (.int .i64 b) (.int .i64 c) (.int .i64 d) v
        by_cases hx : d < 0
        · have hR := HE4.out.trans (if_pos (show ok4 a b c d = false by have h : okI d = false := by { unfold okI; simp; omega }; unfold ok4; rw [h]; simp))
          subst hR
          have d2 : decide (d < 0) = true := by simpa using hx
          clear HE4 hx
          go_wp2
          go_ret
          exact ⟨rfl, G1.out⟩
        · have d2 : decide (d < 0) = false := by simpa using hx
          by_cases hy : 100 < d
          · have hR := HE4.out.trans (if_pos (show ok4 a b c d = false by have h : okI d = false := by { unfold okI; simp; omega }; unfold ok4; rw [h]; simp))
            subst hR
            have d3 : decide (100 < d) = true := by simpa using hy
            clear HE4 hx hy
            go_wp2
            go_ret
            exact ⟨rfl, G1.out⟩
          · have d3 : decide (100 < d) = false := by simpa using hy
            have hok : okI d = true := by unfold okI; simp; omega
            have HJ2 : Hid ((0 < 4 → okI a = true) ∧ (1 < 4 → okI b = true) ∧ (2 < 4 → okI c = true) ∧ (3 < 4 → okI d = true)) := Lib.hid (by have h := HJ.out; simp at h ⊢; simp [hok, h])
            clear HE4 hx hy hok HJ
            go_wp2
            go_roundw
            case rel => exact ⟨4, by omega, rfl, trivial, HJ2⟩
            case measure => simp [intOf] <;> omega
      · have hok : ok4 a b c d = true := by have h := HJ.out; simp at h; unfold ok4; simp [h]
        have HE5 := Lib.hid (HE4.out.trans (if_neg (by simp [hok])))
        clear HE4 HJ hok
        have N1 := Lib.hid (near_any x0 y0)
        go_wp2_with fail
        refine (N1.out _).mono ?_
        rintro e w3 ⟨rfl, hb3⟩
        have D2 := Lib.hid (D1.out.later hb3)
        have G2 := Lib.hid (below_on G1.out hb3)
        clear hb3 N1 h0 h1 h2 h3 h4 h5 h6 h7 h8 h9 D1
        cases n1 : nr x0 y0
        · have hR := HE5.out.trans (if_pos (by simp [n1]))
          subst hR
          clear HE5 n1 D2
          go_wp2
          go_ret
          exact ⟨rfl, G2.out⟩
        · obtain ⟨h0, h1, h2, h3, h4, h5, h6, h7, h8, h9⟩ := D2.out
          have N2 := Lib.hid (near_any x1 y1)
          go_wp2_with fail
          refine (N2.out _).mono ?_
          rintro e w4 ⟨rfl, hb4⟩
          have D3 := Lib.hid (D2.out.later hb4)
          have G3 := Lib.hid (below_on G2.out hb4)
          clear hb4 N2 h0 h1 h2 h3 h4 h5 h6 h7 h8 h9 D2 G2
          cases n2 : nr x1 y1
          · have hR := HE5.out.trans (if_pos (by simp [n2]))
            subst hR
            clear HE5 n1 n2 D3
            go_wp2
            go_ret
            exact ⟨rfl, G3.out⟩
          · have HE6 : Hid (R = if (l.all fun p => nr p.1 p.2) = false then 2 else 0) := Lib.hid (by have h := HE5.out; rw [n1, n2, Bool.true_and, Bool.true_and] at h; exact h)
            clear HE5 n1 n2
            obtain ⟨h0, h1, h2, h3, h4, h5, h6, h7, h8, h9⟩ := D3.out
            clear h0 h1 h2 h3 h4 h6 h7 h8 h9 D3
            go_wp2_with fail
            clear h5
            go_loopw [82] (fun i wr => ∃ k : Nat, k ≤ l.length ∧ i = .int .i64 k ∧ Hid (∀ j (h : j < l.length), j < k → nr l[j].1 l[j].2 = true) ∧ Hid (Below w.heap.size w wr)) (fun i _ => l.length - (intOf i).toNat)
            case atStart => exact ⟨0, by omega, rfl, Lib.hid (fun j _ h => absurd h (by omega)), G3⟩
            case round =>
              obtain ⟨k, hk, rfl, HJ, HW⟩ := hrel
              by_cases hlt : k < l.length
              · obtain ⟨pb, off, rfl, hpb, hc⟩ := (HP.out.later HW.out) (by omega)
                have u1 : wr.cell? ⟨pb, off + k * 2, none⟩ = some (.int .i64 l[k].1) := (hc k hlt).1
                have u2 : wr.cell? ⟨pb, off + k * 2 + 1, none⟩ = some (.int .i64 l[k].2) := (hc k hlt).2
                have q1 : (0 : Int) ≤ (k : Int) := by omega
                have q2 : (k : Int) < (l.length : Int) := by omega
                have q3 : (l.length : Int) ≤ 4096 := by have := HL.out; omega
                have HN : Hid (nr l[k].1 l[k].2 = false → R = 2) := Lib.hid (fun hf => HE6.out.trans (if_pos (by rw [List.all_eq_false]; exact ⟨l[k], List.getElem_mem hlt, by simp [hf]⟩)))
                have HT : Hid (nr l[k].1 l[k].2 = true → ∀ j (h : j < l.length), j < k + 1 → nr l[j].1 l[j].2 = true) := Lib.hid (fun ht => nr_snoc l k HJ.out hlt ht)
                have N3 := Lib.hid (near_any l[k].1 l[k].2)
                generalize l[k].1 = x at *
                generalize l[k].2 = y at *
                clear hc HJ HP
                go_wp2_with fail
                refine (N3.out _).mono ?_
                rintro e w5 ⟨rfl, hb5⟩
                have HW2 := Lib.hid (below_on (below_on HW.out (below_al _ _)) hb5)
                clear hb5 N3 u1 u2 HW HE6
                cases n3 : nr x y
                · have hR := HN.out n3
                  subst hR
                  clear HN HT n3
                  go_wp2
                  go_ret
                  exact ⟨rfl, HW2.out⟩
                · have HT2 := Lib.hid (HT.out n3)
                  clear HN HT n3
                  go_wp2
                  go_roundw
                  case rel => exact ⟨k + 1, by omega, by go_num, HT2, HW2⟩
                  case measure => simp [intOf] <;> omega
              · have hall : (l.all fun p => nr p.1 p.2) = true := by
                  rw [List.all_eq_true]; intro x hx; obtain ⟨j, hj, rfl⟩ := List.getElem_of_mem hx; exact HJ.out j hj (by omega)
                have hR := HE6.out.trans (if_neg (by rw [hall]; simp))
                subst hR
                clear HE6 hall HJ
                go_wp2
                go_ret
                exact ⟨rfl, HW.out⟩
  · have hz : l.length = 0 ∧ iz = true := by simpa [bareB] using hb
    obtain ⟨hz, rfl⟩ := hz
    have e2 : ((l.length : Int) == 0) = true := by simpa using hz
    clear hb hz
    go_upto_region 13 with fail
    clear e2
    by_cases h4 : 4096 < l.length
    · have hR := HE3.out.trans (if_pos h4)
      have d1 : decide ((4096 : Int) < (l.length : Int)) = true := by simp; omega
      subst hR
      clear HE3 h4
      go_wp2
      go_ret
      exact ⟨rfl, G1.out⟩
    have d1 : decide ((4096 : Int) < (l.length : Int)) = false := by simp; omega
    have HE4 := Lib.hid (HE3.out.trans (if_neg h4))
    have HL := Lib.hid h4
    clear HE3 h4
    go_wp2_with fail
    go_loopw [49] (fun i wr => ∃ j : Nat, j ≤ 4 ∧ i = .int .i64 j ∧ wr = v2 ∧ Hid ((0 < j → okI a = true) ∧ (1 < j → okI b = true) ∧ (2 < j → okI c = true) ∧ (3 < j → okI d = true))) (fun i _ => 4 - (intOf i).toNat)
    case atStart => exact ⟨0, by omega, rfl, rfl, Lib.hid ⟨by omega, by omega, by omega, by omega⟩⟩
    case round =>
      obtain ⟨j, hj, rfl, rfl, HJ⟩ := hrel
      obtain rfl | rfl | rfl | rfl | rfl : j = 0 ∨ j = 1 ∨ j = 2 ∨ j = 3 ∨ j = 4 := by omega
      · have X := fun v => idx25_0 (.int .i64 a) (.int .i64 b) (.int .i64 c) (.int .i64 d) v
        by_cases hx : a < 0
        · have hR := HE4.out.trans (if_pos (show ok4 a b c d = false by have h : okI a = false := by { unfold okI; simp; omega }; unfold ok4; rw [h]; simp))
          subst hR
          have d2 : decide (a < 0) = true := by simpa using hx
          clear HE4 hx
          go_wp2
          go_ret
          exact ⟨rfl, G1.out⟩
        · have d2 : decide (a < 0) = false := by simpa using hx
          by_cases hy : 100 < a
          · have hR := HE4.out.trans (if_pos (show ok4 a b c d = false by have h : okI a = false := by { unfold okI; simp; omega }; unfold ok4; rw [h]; simp))
            subst hR
            have d3 : decide (100 < a) = true := by simpa using hy
            clear HE4 hx hy
            go_wp2
            go_ret
            exact ⟨rfl, G1.out⟩
          · have d3 : decide (100 < a) = false := by simpa using hy
            have hok : okI a = true := by unfold okI; simp; omega
            have HJ2 : Hid ((0 < 1 → okI a = true) ∧ (1 < 1 → okI b = true) ∧ (2 < 1 → okI c = true) ∧ (3 < 1 → okI d = true)) := Lib.hid (by have h := HJ.out; simp at h ⊢; simp [hok])
            clear HE4 hx hy hok HJ
            go_wp2
            go_roundw
            case rel => exact ⟨1, by omega, rfl, trivial, HJ2⟩
            case measure => simp [intOf] <;> omega
      · have X := fun v => idx25_1 (.int .i64 a) (.int .i64 b) (.int .i64 c) (.int .i64 d) v
        by_cases hx : b < 0
        · have hR := HE4.out.trans (if_pos (show ok4 a b c d = false by have h : okI b = false := by { unfold okI; simp; omega }; unfold ok4; rw [h]; simp))
          subst hR
          have d2 : decide (b < 0) = true := by simpa using hx
          clear HE4 hx
          go_wp2
          go_ret
          exact ⟨rfl, G1.out⟩
        · have d2 : decide (b < 0) = false := by simpa using hx
          by_cases hy : 100 < b
          · have hR := HE4.out.trans (if_pos (show ok4 a b c d = false by have h : okI b = false := by { unfold okI; simp; omega }; unfold ok4; rw [h]; simp))
            subst hR
            have d3 : decide (100 < b) = true := by simpa using hy
            clear HE4 hx hy
            go_wp2
            go_ret
            exact ⟨rfl, G1.out⟩
          · have d3 : decide (100 < b) = false := by simpa using hy
            have hok : okI b = true := by unfold okI; simp; omega
            have HJ2 : Hid ((0 < 2 → okI a = true) ∧ (1 < 2 → okI b = true) ∧ (2 < 2 → okI c = true) ∧ (3 < 2 → okI d = true)) := Lib.hid (by have h := HJ.out; simp at h ⊢; simp [hok, h])
            clear HE4 hx hy hok HJ
            go_wp2
            go_roundw
            case rel => exact ⟨2, by omega, rfl, trivial, HJ2⟩
            case measure => simp [intOf] <;> omega
      · have X := fun v => idx25_2 (.int .i64 a) (.int .i64 b) (.int .i64 c) (.int .i64 d) v
        by_cases hx : c < 0
        · have hR := HE4.out.trans (if_pos (show ok4 a b c d = false by have h : okI c = false := by { unfold okI; simp; omega }; unfold ok4; rw [h]; simp))
          subst hR
          have d2 : decide (c < 0) = true := by simpa using hx
          clear HE4 hx
          go_wp2
          go_ret
          exact ⟨rfl, G1.out⟩
        · have d2 : decide (c < 0) = false := by simpa using hx
          by_cases hy : 100 < c
          · have hR := HE4.out.trans (if_pos (show ok4 a b c d = false by have h : okI c = false := by { unfold okI; simp; omega }; unfold ok4; rw [h]; simp))
            subst hR
            have d3 : decide (100 < c) = true := by simpa using hy
            clear HE4 hx hy
            go_wp2
            go_ret
            exact ⟨rfl, G1.out⟩
          · have d3 : decide (100 < c) = false := by simpa using hy
            have hok : okI c = true := by unfold okI; simp; omega
            have HJ2 : Hid ((0 < 3 → okI a = true) ∧ (1 < 3 → okI b = true) ∧ (2 < 3 → okI c = true) ∧ (3 < 3 → okI d = true)) := Lib.hid (by have h := HJ.out; simp at h ⊢; simp [hok, h])
            clear HE4 hx hy hok HJ
            go_wp2
            go_roundw
            case rel => exact ⟨3, by omega, rfl, trivial, HJ2⟩
            case measure => simp [intOf] <;> omega
      · have X := fun v => idx25_3 (.int .i64 a) (.int .i64 b) (.int .i64 c) (.int .i64 d) v
        by_cases hx : d < 0
        · have hR := HE4.out.trans (if_pos (show ok4 a b c d = false by have h : okI d = false := by { unfold okI; simp; omega }; unfold ok4; rw [h]; simp))
          subst hR
          have d2 : decide (d < 0) = true := by simpa using hx
          clear HE4 hx
          go_wp2
          go_ret
          exact ⟨rfl, G1.out⟩
        · have d2 : decide (d < 0) = false := by simpa using hx
          by_cases hy : 100 < d
          · have hR := HE4.out.trans (if_pos (show ok4 a b c d = false by have h : okI d = false := by { unfold okI; simp; omega }; unfold ok4; rw [h]; simp))
            subst hR
            have d3 : decide (100 < d) = true := by simpa using hy
            clear HE4 hx hy
            go_wp2
            go_ret
            exact ⟨rfl, G1.out⟩
          · have d3 : decide (100 < d) = false := by simpa using hy
            have hok : okI d = true := by unfold okI; simp; omega
            have HJ2 : Hid ((0 < 4 → okI a = true) ∧ (1 < 4 → okI b = true) ∧ (2 < 4 → okI c = true) ∧ (3 < 4 → okI d = true)) := Lib.hid (by have h := HJ.out; simp at h ⊢; simp [hok, h])
            clear HE4 hx hy hok HJ
            go_wp2
            go_roundw
            case rel => exact ⟨4, by omega, rfl, trivial, HJ2⟩
            case measure => simp [intOf] <;> omega
      · have hok : ok4 a b c d = true := by have h := HJ.out; simp at h; unfold ok4; simp [h]
        have HE5 := Lib.hid (HE4.out.trans (if_neg (by simp [hok])))
        clear HE4 HJ hok
        have N1 := Lib.hid (near_any x0 y0)
        go_wp2_with fail
        refine (N1.out _).mono ?_
        rintro e w3 ⟨rfl, hb3⟩
        have D2 := Lib.hid (D1.out.later hb3)
        have G2 := Lib.hid (below_on G1.out hb3)
        clear hb3 N1 h0 h1 h2 h3 h4 h5 h6 h7 h8 h9 D1
        cases n1 : nr x0 y0
        · have hR := HE5.out.trans (if_pos (by simp [n1]))
          subst hR
          clear HE5 n1 D2
          go_wp2
          go_ret
          exact ⟨rfl, G2.out⟩
        · obtain ⟨h0, h1, h2, h3, h4, h5, h6, h7, h8, h9⟩ := D2.out
          have N2 := Lib.hid (near_any x1 y1)
          go_wp2_with fail
          refine (N2.out _).mono ?_
          rintro e w4 ⟨rfl, hb4⟩
          have D3 := Lib.hid (D2.out.later hb4)
          have G3 := Lib.hid (below_on G2.out hb4)
          clear hb4 N2 h0 h1 h2 h3 h4 h5 h6 h7 h8 h9 D2 G2
          cases n2 : nr x1 y1
          · have hR := HE5.out.trans (if_pos (by simp [n2]))
            subst hR
            clear HE5 n1 n2 D3
            go_wp2
            go_ret
            exact ⟨rfl, G3.out⟩
          · have HE6 : Hid (R = if (l.all fun p => nr p.1 p.2) = false then 2 else 0) := Lib.hid (by have h := HE5.out; rw [n1, n2, Bool.true_and, Bool.true_and] at h; exact h)
            clear HE5 n1 n2
            obtain ⟨h0, h1, h2, h3, h4, h5, h6, h7, h8, h9⟩ := D3.out
            clear h0 h1 h2 h3 h4 h6 h7 h8 h9 D3
            go_wp2_with fail
            clear h5
            go_loopw [82] (fun i wr => ∃ k : Nat, k ≤ l.length ∧ i = .int .i64 k ∧ Hid (∀ j (h : j < l.length), j < k → nr l[j].1 l[j].2 = true) ∧ Hid (Below w.heap.size w wr)) (fun i _ => l.length - (intOf i).toNat)
            case atStart => exact ⟨0, by omega, rfl, Lib.hid (fun j _ h => absurd h (by omega)), G3⟩
            case round =>
              obtain ⟨k, hk, rfl, HJ, HW⟩ := hrel
              by_cases hlt : k < l.length
              · obtain ⟨pb, off, rfl, hpb, hc⟩ := (HP.out.later HW.out) (by omega)
                have u1 : wr.cell? ⟨pb, off + k * 2, none⟩ = some (.int .i64 l[k].1) := (hc k hlt).1
                have u2 : wr.cell? ⟨pb, off + k * 2 + 1, none⟩ = some (.int .i64 l[k].2) := (hc k hlt).2
                have q1 : (0 : Int) ≤ (k : Int) := by omega
                have q2 : (k : Int) < (l.length : Int) := by omega
                have q3 : (l.length : Int) ≤ 4096 := by have := HL.out; omega
                have HN : Hid (nr l[k].1 l[k].2 = false → R = 2) := Lib.hid (fun hf => HE6.out.trans (if_pos (by rw [List.all_eq_false]; exact ⟨l[k], List.getElem_mem hlt, by simp [hf]⟩)))
                have HT : Hid (nr l[k].1 l[k].2 = true → ∀ j (h : j < l.length), j < k + 1 → nr l[j].1 l[j].2 = true) := Lib.hid (fun ht => nr_snoc l k HJ.out hlt ht)
                have N3 := Lib.hid (near_any l[k].1 l[k].2)
                generalize l[k].1 = x at *
                generalize l[k].2 = y at *
                clear hc HJ HP
                go_wp2_with fail
                refine (N3.out _).mono ?_
                rintro e w5 ⟨rfl, hb5⟩
                have HW2 := Lib.hid (below_on (below_on HW.out (below_al _ _)) hb5)
                clear hb5 N3 u1 u2 HW HE6
                cases n3 : nr x y
                · have hR := HN.out n3
                  subst hR
                  clear HN HT n3
                  go_wp2
                  go_ret
                  exact ⟨rfl, HW2.out⟩
                · have HT2 := Lib.hid (HT.out n3)
                  clear HN HT n3
                  go_wp2
                  go_roundw
                  case rel => exact ⟨k + 1, by omega, by go_num, HT2, HW2⟩
                  case measure => simp [intOf] <;> omega
              · have hall : (l.all fun p => nr p.1 p.2) = true := by
                  rw [List.all_eq_true]; intro x hx; obtain ⟨j, hj, rfl⟩ := List.getElem_of_mem hx; exact HJ.out j hj (by omega)
                have hR := HE6.out.trans (if_neg (by rw [hall]; simp))
                subst hR
                clear HE6 hall HJ
                go_wp2
                go_ret
                exact ⟨rfl, HW.out⟩
end Go.Proofs.Ytjclioakdmilmaa
