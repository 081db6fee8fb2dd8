/- More plain words. -/
import Derived.Test.YtoheahbkopbmhaaDoorBase
import Derived.Deep.RegionHeld3
namespace Go.Proofs.YtoheahbkopbmhaaDoor
set_option linter.unusedVariables false
set_option linter.unusedSimpArgs false
open Go.ChangeShapes Go.WideShapes Go.ChangeAt Go.RowKit Go.Deep
theorem below_of_drew {w w' : World} (h : Below w.drew.heap.size w.drew w') : Below w.heap.size w w' := ⟨h.os, h.tape, h.output, h.size, h.block⟩
theorem grown_any {w w' : World} (hb : Below w.heap.size w w') (row : Option Nat) : w.grownBy w' row := ⟨hb.os, hb.tape, hb.output, hb.size, fun k hk _ => hb.block k hk⟩
theorem Recs.drew {α : Type} {e : α → List Value} {s : Nat} {w : World} {A : Option Addr} {l : List α} (h : Recs e s w A l) : Recs e s w.drew A l := h.up (Below.drew (Below.refl _ _))
theorem InRange.out {v : Value} {a b x : Nat} (h : InRange v a b) (hd : x < a ∨ b ≤ x) : some x ≠ v.ownBlock := fun e => by
  have := h x e.symm
  omega
end Go.Proofs.YtoheahbkopbmhaaDoor
