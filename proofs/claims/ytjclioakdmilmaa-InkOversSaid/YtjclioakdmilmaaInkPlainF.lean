/- Plain words for layer ink: the chapter's example. No program in sight. -/
import Derived.Test.YtjclioakdmilmaaInkPlainE
set_option linter.unusedVariables false
namespace Go.Proofs.Ytjclioakdmilmaa.Ink
open Num
/-- blank plates -/
def blk (n : Nat) : Nat → List Int := fun _ => List.replicate n 0
def pnE (w h : Int) (n : Nat) (D : List Dr) : Int := if (sideB w && sideB h) = false then 2 else ovE (fun _ => w) (fun _ => h) (blk n) D
def pnW (w h : Int) (n : Nat) (D : List Dr) : Nat → Int := if (sideB w && sideB h) = false then fun _ => 0 else ovW (fun _ => w) (fun _ => h) (blk n) D
def pnH (w h : Int) (n : Nat) (D : List Dr) : Nat → Int := if (sideB w && sideB h) = false then fun _ => 0 else ovH (fun _ => w) (fun _ => h) (blk n) D
def pnV (w h : Int) (n : Nat) (D : List Dr) : Nat → List Int := if (sideB w && sideB h) = false then fun _ => [] else ovV (fun _ => w) (fun _ => h) (blk n) D
def exD : List Dr := [⟨1, 0, 0, 1, 0, [], 10, 0, 0, 50⟩, ⟨3, 1, 0, 5, 5, [], 0, 0, 0, 0⟩]
def exS : List Dr := [⟨2, 0, 0, 0, 0, [(1, 1)], 0, 7, 0, 0⟩]
def exV1 : Nat → List Int := fun i => if i = 0 then [10, 0, 0, 0, 0, 0] else if i = 3 then [50, 0, 0, 0, 0, 0] else [0, 0, 0, 0, 0, 0]
def exV2 : Nat → List Int := fun i => if i = 0 then [10, 0, 0, 0, 0, 0] else if i = 1 then [0, 0, 0, 0, 7, 0] else if i = 3 then [50, 0, 0, 0, 0, 0] else [0, 0, 0, 0, 0, 0]
theorem ex_E1 : pnE 3 2 6 exD = 0 := by decide
theorem ex_V1 : ∀ i, i < 4 → pnV 3 2 6 exD i = exV1 i := by decide
theorem ex_E2 : ovE (fun _ => 3) (fun _ => 2) exV1 exS = 0 := by decide
theorem ex_V2 : ∀ i, i < 4 → ovV (fun _ => 3) (fun _ => 2) exV1 exS i = exV2 i := by decide
theorem ex_c1 : cels 0 0 4 2 = [(0, 0), (1, 1), (2, 1), (3, 2), (4, 2)] := by decide
theorem ex_c2 : cels 0 0 2 (-1) = [(0, 0), (1, 0), (2, -1)] := by decide
theorem ex_k1 : ckE 3 0 0 0 0 [] 1 0 0 0 = 1 := by decide
theorem ex_k2 : ckE 1 0 0 0 0 [] 101 0 0 0 = 2 := by decide
theorem ex_k3 : ckE 0 0 0 0 0 [] 0 0 0 0 = 9 := by decide
end Go.Proofs.Ytjclioakdmilmaa.Ink
