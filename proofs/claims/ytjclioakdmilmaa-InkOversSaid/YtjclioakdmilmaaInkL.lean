/- The contract of slices.Clone. -/
import Derived.Test.YtjclioakdmilmaaInkK
import Derived.Test.YtjclioakdmilmaaInkG
import Derived.Test.YtjclioakdmilmaaFreeM
namespace Go.Proofs.Ytjclioakdmilmaa
open Go.RowKit
open Num Ink
set_option linter.unusedVariables false
/-- a new row of these numbers -/
def ClR (B : Nat) (l : List Int) (v : Value) (u : World) : Prop := ∃ g c, v = .slice (some ⟨g, 0, none⟩) l.length c ∧ l.length ≤ c ∧ u.ownsRow B 3 1 (.slice (some ⟨g, 0, none⟩) l.length c) l.length (l.map (Value.int .i64))
theorem ClR.stab (B : Nat) (l : List Int) (v : Value) (w w' : World) (h : ClR B l v w) (hb : Below w.heap.size w w') : ClR B l v w' := by
  obtain ⟨g, c, h1, h2, h3⟩ := h
  exact ⟨g, c, h1, h2, own_on h3 hb⟩
def ClE (B : Nat) (l : List Int) (w : World) (e : Ending) (u : World) : Prop := ∃ v, e = .returned v ∧ Below w.heap.size w u ∧ ClR B l v u
theorem own_cap {w : World} {base g n cap s : Nat} {xs : List Value} {e : TypeId} (h : w.ownsRow base e s (.slice (some ⟨g, 0, none⟩) n cap) n xs) : n ≤ cap := by
  rcases h.2 with ⟨h1, -⟩ | ⟨g', c', cur, h1, -, -, h4, -⟩
  · simp at h1
  · simp at h1
    omega
theorem nil_no (b off n c : Nat) (v : World) : Sem.run Try.prog (binOp BinOp.eql 38 (.slice (some ⟨b, off, none⟩) n c) (.slice none 0 0)) v = .ok (.bool false) v := by kernel_rfl
set_option maxHeartbeats 2000000 in
theorem clone_any (l : List Int) (b off cap B : Nat) (w : World) (hN : Ns w w.heap.size (some ⟨b, off, none⟩) l) (h0 : 0 < l.length) (hl : l.length ≤ 65536) (hB : B ≤ w.heap.size) :
    Calls Try.prog 34 #[.slice (some ⟨b, off, none⟩) l.length cap] w (ClE B l w) := by
  obtain ⟨i0, hi, hz0, hz1, hz2⟩ := info_parts Try.infoInt
  have HN := Lib.hid hN
  have HL := Lib.hid hl
  have H0 := Lib.hid h0
  have HB := Lib.hid hB
  clear hN hl h0 hB
  have NN := fun v => nil_no b off l.length cap v
  go_enter Try.func34, Try.ntmps34
  go_wp2_with (at_builtin; refine wpList_append_own _ rfl _ _ 38 rfl B 3 i0 (.int .i64 0) 1 8 Try.underlying38 hi hz0 hz1 hz2 rfl (by decide) _ _ _ rfl (World.ownsRow_made w #[] 0 HB.out (by decide) rfl) ⟨b, off, none⟩ l.length cap (l.map (Value.int .i64)) rfl (by simp) ?t1 ?t2 ?t3 ?t4 ?t5 ?_)
  case t1 =>
    intro j u hj
    obtain ⟨b', o', e', hb', hc'⟩ := (HN.out.later (below_al w (.cells #[] 3))) H0.out
    injection e' with e'
    injection e' with e1 e2
    subst e1 e2
    rw [List.getElem?_map] at hj
    cases hlj : l[j]? with
    | none => rw [hlj] at hj; simp at hj
    | some x =>
      rw [hlj] at hj
      obtain ⟨hjl, rfl⟩ := List.getElem?_eq_some_iff.1 hlj
      simp at hj
      subst hj
      rw [Addr.add_lit]
      exact hc' j hjl
  case t2 => intro u hu; rw [List.mem_map] at hu; obtain ⟨x, -, rfl⟩ := hu; rfl
  case t3 => have := HL.out; unfold maxLen; omega
  case t4 => have := HL.out; omega
  case t5 => have := HB.out; simp; omega
  intro v' w9 hown hgrow _
  obtain ⟨g, c, rfl, hg, hgl⟩ := own_some hown H0.out
  have hcap : l.length ≤ c := own_cap hown
  have hb := (below_al w (.cells #[] 3)).grown hgrow (by simp) (fun k hk => by
    have : w.heap.size = k := by simpa [Value.ownBlock] using hk
    omega)
  have HR := Lib.hid (show ClE B l w (.returned (.slice (some ⟨g, 0, none⟩) l.length c)) w9 from ⟨_, rfl, hb, g, c, rfl, hcap, hown⟩)
  clear hown hgrow hb hcap hg hgl NN
  go_wp2
  go_ret
  exact HR.out
theorem setCell_id {w : World} {b o : Nat} {v : Value} (h : w.cell? ⟨b, o, none⟩ = some v) : w.setCell ⟨b, o, none⟩ v = w := by
  have hh : (w.setCell ⟨b, o, none⟩ v).heap = w.heap := by
    apply Array.ext_getElem?
    intro k
    by_cases hk : k = b
    · subst hk
      unfold World.cell? at h
      unfold World.setCell
      simp only [Array.getElem?_modify, if_pos]
      cases hw : w.heap[k]? with
      | none => rfl
      | some x =>
        rw [hw] at h
        cases x <;> simp at h ⊢
        apply Array.ext_getElem?
        intro j
        rw [Array.getElem?_setIfInBounds]
        split
        · rename_i e; subst e; rw [h]; split <;> simp_all
        · rfl
    · exact Below.heap_setCell _ _ _ _ hk
  show ({ w with heap := (w.setCell ⟨b, o, none⟩ v).heap } : World) = w
  rw [hh]
end Go.Proofs.Ytjclioakdmilmaa
