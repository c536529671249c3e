/- The contracts of cut.reach, place.less and of Clip's two closures that give a point. -/
import Derived.Test.YtpdiojndfckmfaaCutB
import Derived.Test.YtpdiojndfckmfaaCutPlainD
import Derived.Test.YtpdiojndfckmfaaGeoH
namespace Go.Proofs.Ytpdiojndfckmfaa
open Go.RowKit
open Num Geo Cut
set_option linter.unusedVariables false
set_option maxHeartbeats 2000000 in
theorem reach_any (s w v : Int) (W : World) (hs : -2097152 ≤ s ∧ s ≤ 2097152) (hw : -4194304 ≤ w ∧ w ≤ 4194304) (h0 : w ≠ 0) (hv : I64 v) :
    Calls Try.prog 28 #[.int .i64 s, .int .i64 w, .int .i64 v] W fun e W' => e = .returned (.tuple #[.agg #[.int .i64 (rN s w v), .int .i64 (rD s w v), .int .i64 0, .int .i64 0], .bool (ins s w v)]) ∧ Below W.heap.size W W' := by
  have HC := Lib.hid (reach_cases s w v h0)
  generalize rN s w v = n at *
  generalize rD s w v = d at *
  generalize ins s w v = b at *
  unfold I64 at hv
  obtain ⟨hv1, hv2⟩ := hv
  obtain ⟨hs1, hs2⟩ := hs
  obtain ⟨hw1, hw2⟩ := hw
  go_enter Try.func28, Try.ntmps28
  rcases HC.out with h | h | h | h | h | h
  · obtain ⟨rfl, g1, g2, g3, rfl, hd⟩ := h
    have hd := hd.symm
    subst hd
    have e1 : decide (min s (s + w) ≤ v) = true := by simp; omega
    have e2 : decide (v ≤ max s (s + w)) = true := by simp; omega
    have e3 : decide (w < 0) = false := by simp; omega
    clear HC
    go_wp2
    refine bodyPost_ret (v := .tuple #[.agg #[.int .i64 (v - s), .int .i64 w, .int .i64 0, .int .i64 0], .bool true]) (by simp [results, Try.results28, go_sem]) rfl ⟨rfl, by go_grown⟩
  · obtain ⟨rfl, g1, g2, g3, rfl, rfl⟩ := h
    have e1 : decide (min s (s + w) ≤ v) = true := by simp; omega
    have e2 : decide (v ≤ max s (s + w)) = true := by simp; omega
    have e3 : decide (w < 0) = true := by simp; omega
    clear HC
    go_wp2
    exact bodyPost_ret (v := .tuple #[.agg #[.int .i64 (s - v), .int .i64 (-w), .int .i64 0, .int .i64 0], .bool true]) (by simp [results, Try.results28, go_sem]) rfl ⟨rfl, by go_grown⟩
  · obtain ⟨rfl, g1, g2, rfl, rfl⟩ := h
    have e1 : decide (min s (s + w) ≤ v) = false := by simp; omega
    have e2 : decide (v < s) = true := by simp; omega
    have e3 : decide (0 < w) = true := by simp; omega
    clear HC
    go_wp2
    exact bodyPost_ret (v := .tuple #[.agg #[.int .i64 (-1), .int .i64 1, .int .i64 0, .int .i64 0], .bool false]) (by simp [results, Try.results28, go_sem]) rfl ⟨rfl, by go_grown⟩
  · obtain ⟨rfl, g1, g2, rfl, rfl⟩ := h
    have e0 : decide (min s (s + w) ≤ v) = true := by simp; omega
    have e1 : decide (v ≤ max s (s + w)) = false := by simp; omega
    have e2 : decide (v < s) = false := by simp; omega
    have e3 : decide (0 < w) = true := by simp; omega
    clear HC
    go_wp2
    exact bodyPost_ret (v := .tuple #[.agg #[.int .i64 1, .int .i64 1, .int .i64 0, .int .i64 0], .bool false]) (by simp [results, Try.results28, go_sem]) rfl ⟨rfl, by go_grown⟩
  · obtain ⟨rfl, g1, g2, rfl, rfl⟩ := h
    have e0 : decide (min s (s + w) ≤ v) = true := by simp; omega
    have e1 : decide (v ≤ max s (s + w)) = false := by simp; omega
    have e2 : decide (v < s) = false := by simp; omega
    have e3 : decide (0 < w) = false := by simp; omega
    clear HC
    go_wp2
    exact bodyPost_ret (v := .tuple #[.agg #[.int .i64 (-1), .int .i64 1, .int .i64 0, .int .i64 0], .bool false]) (by simp [results, Try.results28, go_sem]) rfl ⟨rfl, by go_grown⟩
  · obtain ⟨rfl, g1, g2, rfl, rfl⟩ := h
    have e0 : decide (min s (s + w) ≤ v) = false := by simp; omega
    have e2 : decide (v < s) = true := by simp; omega
    have e3 : decide (0 < w) = false := by simp; omega
    clear HC
    go_wp2
    exact bodyPost_ret (v := .tuple #[.agg #[.int .i64 1, .int .i64 1, .int .i64 0, .int .i64 0], .bool false]) (by simp [results, Try.results28, go_sem]) rfl ⟨rfl, by go_grown⟩
set_option maxHeartbeats 1000000 in
theorem less_any (n1 d1 x1 y1 n2 d2 x2 y2 : Int) (W : World) (h1 : -4194304 ≤ n1 ∧ n1 ≤ 4194304) (h2 : -4194304 ≤ d1 ∧ d1 ≤ 4194304) (h3 : -4194304 ≤ n2 ∧ n2 ≤ 4194304) (h4 : -4194304 ≤ d2 ∧ d2 ≤ 4194304) :
    Calls Try.prog 29 #[.agg #[.int .i64 n1, .int .i64 d1, .int .i64 x1, .int .i64 y1], .agg #[.int .i64 n2, .int .i64 d2, .int .i64 x2, .int .i64 y2]] W fun e W' => e = .returned (.bool (decide (n1 * d2 < n2 * d1))) ∧ Below W.heap.size W W' := by
  have p1 := prod_in h1 h4
  have p2 := prod_in h3 h2
  clear h1 h2 h3 h4
  go_enter Try.func29, Try.ntmps29
  go_wp2
  go_ret
  exact ⟨rfl, by go_grown⟩
/-- the places of clipping in memory -/
def Pl (v : World) (b : Nat) (n d x y : Int) : Prop := v.cell? ⟨b, 0, none⟩ = some (.int .i64 n) ∧ v.cell? ⟨b, 1, none⟩ = some (.int .i64 d) ∧ v.cell? ⟨b, 2, none⟩ = some (.int .i64 x) ∧ v.cell? ⟨b, 3, none⟩ = some (.int .i64 y) ∧ ∀ o, v.frozen? ⟨b, o, none⟩ = false
def Bl (v : World) (b : Nat) (x : Bool) : Prop := v.cell? ⟨b, 0, none⟩ = some (.bool x) ∧ ∀ o, v.frozen? ⟨b, o, none⟩ = false
theorem Pl.later {v u : World} {b : Nat} {n d x y : Int} (h : Pl v b n d x y) (hb : Below v.heap.size v u) : Pl u b n d x y :=
  ⟨cell_on h.1 hb, cell_on h.2.1 hb, cell_on h.2.2.1 hb, cell_on h.2.2.2.1 hb, fun o => (hb.frozen (p := ⟨b, o, none⟩) (cell_lt h.1)).trans (h.2.2.2.2 o)⟩
theorem Bl.later {v u : World} {b : Nat} {x : Bool} (h : Bl v b x) (hb : Below v.heap.size v u) : Bl u b x :=
  ⟨cell_on h.1 hb, fun o => (hb.frozen (p := ⟨b, o, none⟩) (cell_lt h.1)).trans (h.2 o)⟩
theorem Pl.other {v : World} {b c o : Nat} {n d x y : Int} (h : Pl v b n d x y) (hn : b ≠ c) (z : Value) : Pl (v.setCell ⟨c, o, none⟩ z) b n d x y := by
  have k : ∀ i, (⟨c, o, none⟩ : Addr) ≠ ⟨b, i, none⟩ := by intro i hx; injection hx with h1 h2; exact hn h1.symm
  refine ⟨?_, ?_, ?_, ?_, fun o => by simp [h.2.2.2.2 o]⟩
  · rw [World.cell?_setCell_other _ _ _ _ (k 0)]; exact h.1
  · rw [World.cell?_setCell_other _ _ _ _ (k 1)]; exact h.2.1
  · rw [World.cell?_setCell_other _ _ _ _ (k 2)]; exact h.2.2.1
  · rw [World.cell?_setCell_other _ _ _ _ (k 3)]; exact h.2.2.2.1
theorem Bl.other {v : World} {b c o : Nat} {x : Bool} (h : Bl v b x) (hn : b ≠ c) (z : Value) : Bl (v.setCell ⟨c, o, none⟩ z) b x := by
  have k : ∀ i, (⟨c, o, none⟩ : Addr) ≠ ⟨b, i, none⟩ := by intro i hx; injection hx with h1 h2; exact hn h1.symm
  refine ⟨?_, fun o => by simp [h.2 o]⟩
  rw [World.cell?_setCell_other _ _ _ _ (k 0)]; exact h.1
theorem Bl.same {v : World} {b : Nat} {x : Bool} (h : Bl v b x) (y : Bool) : Bl (v.setCell ⟨b, 0, none⟩ (.bool y)) b y :=
  ⟨World.cell?_setCell_same _ _ _ h.1, fun o => by simp [h.2 o]⟩
theorem Pl.set0 {v : World} {b : Nat} {n d x y : Int} (h : Pl v b n d x y) (z : Int) : Pl (v.setCell ⟨b, 0, none⟩ (.int .i64 z)) b z d x y := by
  refine ⟨World.cell?_setCell_same _ _ _ h.1, ?_, ?_, ?_, fun o => by simp [h.2.2.2.2 o]⟩
  · rw [World.cell?_setCell_other _ _ _ _ (by simp)]; exact h.2.1
  · rw [World.cell?_setCell_other _ _ _ _ (by simp)]; exact h.2.2.1
  · rw [World.cell?_setCell_other _ _ _ _ (by simp)]; exact h.2.2.2.1
theorem Pl.set1 {v : World} {b : Nat} {n d x y : Int} (h : Pl v b n d x y) (z : Int) : Pl (v.setCell ⟨b, 1, none⟩ (.int .i64 z)) b n z x y := by
  refine ⟨?_, World.cell?_setCell_same _ _ _ h.2.1, ?_, ?_, fun o => by simp [h.2.2.2.2 o]⟩
  · rw [World.cell?_setCell_other _ _ _ _ (by simp)]; exact h.1
  · rw [World.cell?_setCell_other _ _ _ _ (by simp)]; exact h.2.2.1
  · rw [World.cell?_setCell_other _ _ _ _ (by simp)]; exact h.2.2.2.1
theorem Pl.set2 {v : World} {b : Nat} {n d x y : Int} (h : Pl v b n d x y) (z : Int) : Pl (v.setCell ⟨b, 2, none⟩ (.int .i64 z)) b n d z y := by
  refine ⟨?_, ?_, World.cell?_setCell_same _ _ _ h.2.2.1, ?_, fun o => by simp [h.2.2.2.2 o]⟩
  · rw [World.cell?_setCell_other _ _ _ _ (by simp)]; exact h.1
  · rw [World.cell?_setCell_other _ _ _ _ (by simp)]; exact h.2.1
  · rw [World.cell?_setCell_other _ _ _ _ (by simp)]; exact h.2.2.2.1
theorem Pl.set3 {v : World} {b : Nat} {n d x y : Int} (h : Pl v b n d x y) (z : Int) : Pl (v.setCell ⟨b, 3, none⟩ (.int .i64 z)) b n d x z := by
  refine ⟨?_, ?_, ?_, World.cell?_setCell_same _ _ _ h.2.2.2.1, fun o => by simp [h.2.2.2.2 o]⟩
  · rw [World.cell?_setCell_other _ _ _ _ (by simp)]; exact h.1
  · rw [World.cell?_setCell_other _ _ _ _ (by simp)]; exact h.2.1
  · rw [World.cell?_setCell_other _ _ _ _ (by simp)]; exact h.2.2.1
theorem Pl.new (u : World) (n d x y : Int) (t : TypeId) : Pl (u.alloc (.cells #[.int .i64 n, .int .i64 d, .int .i64 x, .int .i64 y] t)) u.heap.size n d x y :=
  ⟨by simp, by simp, by simp, by simp, fun o => by simp⟩
theorem Bl.new (u : World) (x : Bool) (t : TypeId) : Bl (u.alloc (.cells #[.bool x] t)) u.heap.size x := ⟨by simp, fun o => by simp⟩
set_option maxHeartbeats 2000000 in
theorem ptX_any (ax ay bx by_ v : Int) (a b : Nat) (w : World) (hv : I64 v) (ha : Bx w a ax ay) (hb : Bx w b bx by_) :
    Calls Try.prog 30 #[.int .i64 v, .pointer (some ⟨a, 0, none⟩), .pointer (some ⟨b, 0, none⟩)] w fun e w' => e = .returned (.agg #[.int .i64 v, .int .i64 (atV ax ay bx by_ v)]) ∧ Below w.heap.size w w' := by
  have AT := Lib.hid (fun w => AtX_any ax ay bx by_ v w hv)
  generalize atV ax ay bx by_ v = u at *
  have la := ha.lt
  have lb := hb.lt
  obtain ⟨c0, c1, -⟩ := ha
  obtain ⟨d0, d1, -⟩ := hb
  go_enter Try.func30, Try.ntmps30
  go_wp2_with fail
  refine (AT.out _).mono ?_
  rintro e w1 ⟨rfl, hb⟩
  have K := (Bx.new w 0 0 23).later hb
  obtain ⟨k0, k1, k2⟩ := K
  have G := Lib.hid (below_on (below_al w _) hb)
  clear hb c0 c1 d0 d1 la lb
  go_wp2
  exact bodyPost_ret (v := .agg #[.int .i64 v, .int .i64 u]) (by simp [results, Try.results30, go_sem, k0, k1]) rfl ⟨rfl, (G.out.setCell (Nat.le_refl _) _).setCell (Nat.le_refl _) _⟩
set_option maxHeartbeats 2000000 in
theorem ptY_any (ax ay bx by_ v : Int) (a b : Nat) (w : World) (hv : I64 v) (ha : Bx w a ax ay) (hb : Bx w b bx by_) :
    Calls Try.prog 31 #[.int .i64 v, .pointer (some ⟨a, 0, none⟩), .pointer (some ⟨b, 0, none⟩)] w fun e w' => e = .returned (.agg #[.int .i64 (atV ay ax by_ bx v), .int .i64 v]) ∧ Below w.heap.size w w' := by
  have AT := Lib.hid (fun w => AtY_any ax ay bx by_ v w hv)
  generalize atV ay ax by_ bx v = u at *
  have la := ha.lt
  have lb := hb.lt
  obtain ⟨c0, c1, -⟩ := ha
  obtain ⟨d0, d1, -⟩ := hb
  go_enter Try.func31, Try.ntmps31
  go_wp2_with fail
  refine (AT.out _).mono ?_
  rintro e w1 ⟨rfl, hb⟩
  have K := (Bx.new w 0 0 23).later hb
  obtain ⟨k0, k1, k2⟩ := K
  have G := Lib.hid (below_on (below_al w _) hb)
  clear hb c0 c1 d0 d1 la lb
  go_wp2
  exact bodyPost_ret (v := .agg #[.int .i64 u, .int .i64 v]) (by simp [results, Try.results31, go_sem, k0, k1]) rfl ⟨rfl, (G.out.setCell (Nat.le_refl _) _).setCell (Nat.le_refl _) _⟩
end Go.Proofs.Ytpdiojndfckmfaa
