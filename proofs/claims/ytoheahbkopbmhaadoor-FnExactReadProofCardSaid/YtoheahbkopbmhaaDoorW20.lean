/- The walks through the comparison of proofs, both sides, and the law's own conversions of proofs. -/
import Derived.Test.YtoheahbkopbmhaaDoorCline
namespace Go.Proofs.YtoheahbkopbmhaaDoor
set_option linter.unusedVariables false
set_option linter.unusedSimpArgs false
open Go.ChangeShapes Go.WideShapes Go.ChangeAt Go.RowKit Go.Deep
theorem laws_eqProof (A B C D : Option Addr) (n m n' m' c d c' d' : Nat) (l l' : List ByteArray) (k k' : List Line3) (w : World) (hn : l.length = n) (hn' : l'.length = n') (hm : k.length = m) (hm' : k'.length = m') (h : Recs strE 1 w A l) (h' : Recs strE 1 w B l') (g : Recs lineE 3 w C k) (g' : Recs lineE 3 w D k') (hz : n ≤ 16777216) (hz' : n' ≤ 16777216) (hy : m ≤ 16777216) (hy' : m' ≤ 16777216) :
    Calls Tryd.prog 6 #[.agg #[.slice A n c, .slice C m d], .agg #[.slice B n' c', .slice D m' d']] w fun e w' => e = .returned (.bool (decide (l = l') && decide (k = k'))) ∧ Below w.heap.size w w' := by
  have b0 : Below w.heap.size w ((w.alloc (.cells #[.slice A n c, .slice C m d] 25)).alloc (.cells #[.slice B n' c', .slice D m' d'] 25)) := by (repeat' (first | (with_reducible exact Below.refl _ _) | (with_reducible assumption) | (with_reducible refine below_drewN ?_ _) | (with_reducible refine Below.drew ?_) | (with_reducible refine below_alloc ?_ _) | (with_reducible refine Below.alloc ?_ ?_ _) | (with_reducible refine Below.setCell ?_ ?_ _) | (with_reducible refine below_go ?_ (by with_reducible assumption)) | (with_reducible refine below_then (by with_reducible assumption) ?_ ?_) | go_size))
  have K0 := (Blk.at_ w 25 [.slice A n c, .slice C m d] (b := w.heap.size) rfl).alloc (.cells #[.slice B n' c', .slice D m' d'] 25)
  have K1 := Blk.at_ (w.alloc (.cells #[.slice A n c, .slice C m d] 25)) 25 [.slice B n' c', .slice D m' d'] (b := w.heap.size + 1) (by simp)
  rcases h1 : decide (l = l')
  · go_in
    go_wp2_with (first | (go_at_call 18; refine (laws_eqStringS _ _ _ _ _ _ _ _ _ hn hn' (h.up b0) (h'.up b0) hz hz').mono ?_; rw [h1]; rintro e w1 ⟨rfl, hb1⟩))
    go_ret
    exact ⟨rfl, below_go b0 hb1⟩
  · rcases h2 : decide (k = k')
    · go_in
      go_wp2_with (first | (go_at_call 18; refine (laws_eqStringS _ _ _ _ _ _ _ _ _ hn hn' (h.up b0) (h'.up b0) hz hz').mono ?_; rw [h1]; rintro e w1 ⟨rfl, hb1⟩; have L0 := K0.up hb1; have L1 := K1.up hb1; have c1 := L0.cell 1; have d1 := L1.cell 1; simp only [List.getElem?_cons_zero, List.getElem?_cons_succ] at c1 d1; clear L0 L1) | (go_at_call 19; refine (laws_eqLineS _ _ _ _ _ _ _ _ _ hm hm' ((g.up b0).up hb1) ((g'.up b0).up hb1) hy hy').mono ?_; rw [h2]; rintro e w2 ⟨rfl, hb2⟩))
      go_ret
      exact ⟨rfl, below_go (below_go b0 hb1) hb2⟩
    · go_in
      go_wp2_with (first | (go_at_call 18; refine (laws_eqStringS _ _ _ _ _ _ _ _ _ hn hn' (h.up b0) (h'.up b0) hz hz').mono ?_; rw [h1]; rintro e w1 ⟨rfl, hb1⟩; have L0 := K0.up hb1; have L1 := K1.up hb1; have c1 := L0.cell 1; have d1 := L1.cell 1; simp only [List.getElem?_cons_zero, List.getElem?_cons_succ] at c1 d1; clear L0 L1) | (go_at_call 19; refine (laws_eqLineS _ _ _ _ _ _ _ _ _ hm hm' ((g.up b0).up hb1) ((g'.up b0).up hb1) hy hy').mono ?_; rw [h2]; rintro e w2 ⟨rfl, hb2⟩))
      go_ret
      exact ⟨rfl, below_go (below_go b0 hb1) hb2⟩
end Go.Proofs.YtoheahbkopbmhaaDoor
