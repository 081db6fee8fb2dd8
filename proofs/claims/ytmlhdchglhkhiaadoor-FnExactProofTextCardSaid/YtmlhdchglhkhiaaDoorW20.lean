/- The walks through the comparison of proofs, both sides, and the law's own conversions of proofs. -/
import Derived.Test.YtmlhdchglhkhiaaDoorCline
namespace Go.Proofs.YtmlhdchglhkhiaaDoor
set_option linter.unusedVariables false
set_option linter.unusedSimpArgs false
open Go.ChangeShapes Go.WideShapes Go.ChangeAt Go.RowKit Go.Deep
theorem laws_szProof (A C : Option Addr) (n m c d : Nat) (l : List ByteArray) (k : List Line3) (left : Int) (w : World) (hn : l.length = n) (hm : k.length = m) (h : Recs strE 1 w A l) (g : Recs lineE 3 w C k) (h1 : left ≤ 1048576) (h0 : 0 ≤ left)
    (hl : l.length ≤ 9223372036854775807) (hk : k.length ≤ 9223372036854775807) (hs : ∀ s ∈ l, s.size ≤ maxLen) (hks : ∀ x ∈ k, x.1.size ≤ maxLen) :
    Calls Tryd.prog 22 #[.agg #[.slice A n c, .slice C m d], .int .i64 left] w fun e w' => e = .returned (.int .i64 (szV (szS l + szL k) left)) ∧ Below w.heap.size w w' := by
  have b0 : Below w.heap.size w (w.alloc (.cells #[.slice A n c, .slice C m d] 42)) := by (repeat' (first | (with_reducible exact Below.refl _ _) | (with_reducible assumption) | (with_reducible refine below_drewN ?_ _) | (with_reducible refine Below.drew ?_) | (with_reducible refine below_alloc ?_ _) | (with_reducible refine Below.alloc ?_ ?_ _) | (with_reducible refine Below.setCell ?_ ?_ _) | (with_reducible refine below_go ?_ (by with_reducible assumption)) | (with_reducible refine below_then (by with_reducible assumption) ?_ ?_) | go_size))
  have z0 := szS_len l
  have z1 := szL_len k
  by_cases hA : szS l ≤ left
  · by_cases hB : szL k ≤ left - szS l
    · have e := szV_t (z := szS l + szL k) (left := left) (by omega)
      rw [e]
      clear e
      go_in
      go_wp2_with (first | (go_at_call 49; refine (laws_szStringS_ok _ _ _ _ _ _ hn (h.up b0) h1 h0 hl hs hA).mono ?_; rintro e w' ⟨rfl, rfl⟩) | (go_at_call 50; refine (laws_szLineS _ _ _ _ _ _ hm (g.up b0) (by omega) (by omega) hk hks).mono ?_; rw [szV_t hB]; rintro e w1 ⟨rfl, hb1⟩))
      go_ret
      exact ⟨ret_int (by omega), below_go b0 hb1⟩
    · have e := szV_f (z := szS l + szL k) (left := left) (by omega)
      rw [e]
      clear e
      go_in
      go_wp2_with (first | (go_at_call 49; refine (laws_szStringS_ok _ _ _ _ _ _ hn (h.up b0) h1 h0 hl hs hA).mono ?_; rintro e w' ⟨rfl, rfl⟩) | (go_at_call 50; refine (laws_szLineS _ _ _ _ _ _ hm (g.up b0) (by omega) (by omega) hk hks).mono ?_; rw [szV_f (show ¬ szL k ≤ left - szS l by omega)]; rintro e w1 ⟨rfl, hb1⟩))
      go_ret
      exact ⟨rfl, below_go b0 hb1⟩
  · have e := szV_f (z := szS l + szL k) (left := left) (by omega)
    rw [e]
    clear e
    go_in
    go_wp2_with (first | (go_at_call 49; refine (laws_szStringS_no _ _ _ _ _ _ hn (h.up b0) h1 h0 hl hs (by omega)).mono ?_; rintro e w' ⟨rfl, rfl⟩))
    go_ret
    exact ⟨rfl, b0⟩
theorem laws_toProof (A C : Option Addr) (n m c d : Nat) (l : List ByteArray) (k : List Line3) (w : World) (hn : l.length = n) (hm : k.length = m) (h : Recs strE 1 w A l) (g : Recs lineE 3 w C k) (hz : n ≤ 1048576) (hz' : m ≤ 1048576) :
    Calls Tryd.prog 24 #[.agg #[.slice A n c, .slice C m d]] w fun e w' => ∃ g1 g2, e = .returned (.agg #[.slice (some ⟨g1, 0, none⟩) n n, .slice (some ⟨g2, 0, none⟩) m m]) ∧ Recs strE 1 w' (some ⟨g1, 0, none⟩) l ∧ Recs lineE 3 w' (some ⟨g2, 0, none⟩) k ∧ Below w.heap.size w w' := by
  have b0 : Below w.heap.size w (((w.alloc (.cells #[.slice A n c, .slice C m d] 42)).alloc (.cells #[.slice none 0 0, .slice none 0 0] 47)).alloc (.cells #[.slice none 0 0, .slice none 0 0] 47)) := by (repeat' (first | (with_reducible exact Below.refl _ _) | (with_reducible assumption) | (with_reducible refine below_drewN ?_ _) | (with_reducible refine Below.drew ?_) | (with_reducible refine below_alloc ?_ _) | (with_reducible refine Below.alloc ?_ ?_ _) | (with_reducible refine Below.setCell ?_ ?_ _) | (with_reducible refine below_go ?_ (by with_reducible assumption)) | (with_reducible refine below_then (by with_reducible assumption) ?_ ?_) | go_size))
  have K0 := ((Blk.at_ w 42 [.slice A n c, .slice C m d] (b := w.heap.size) rfl).alloc (.cells #[.slice none 0 0, .slice none 0 0] 47)).alloc (.cells #[.slice none 0 0, .slice none 0 0] 47)
  have K1 := (Blk.at_ (w.alloc (.cells #[.slice A n c, .slice C m d] 42)) 47 [.slice none 0 0, .slice none 0 0] (b := w.heap.size + 1) (by simp)).alloc (.cells #[.slice none 0 0, .slice none 0 0] 47)
  have K2 := Blk.at_ ((w.alloc (.cells #[.slice A n c, .slice C m d] 42)).alloc (.cells #[.slice none 0 0, .slice none 0 0] 47)) 47 [.slice none 0 0, .slice none 0 0] (b := w.heap.size + 1 + 1) (by simp)
  have sz0 : (((w.alloc (.cells #[.slice A n c, .slice C m d] 42)).alloc (.cells #[.slice none 0 0, .slice none 0 0] 47)).alloc (.cells #[.slice none 0 0, .slice none 0 0] 47)).heap.size = w.heap.size + 3 := by simp
  go_in
  go_wp2_with fail
  refine (laws_toStringS _ _ _ _ _ hn (h.up b0) hz).mono ?_; rintro e w1 ⟨g1, rfl, o1, hb1⟩
  have L0 := K0.up hb1; have L1 := K1.up hb1; have L2 := K2.up hb1
  have c0 := L0.cell 0; have c1 := L0.cell 1
  have f0 := L2.frozen 0; have d0 := L2.cell 0
  simp only [List.getElem?_cons_zero, List.getElem?_cons_succ] at c0 c1 d0
  have sz1 := hb1.size
  rw [sz0] at sz1
  have r1 := o1.at_own
  rw [sz0] at r1
  clear K0 K1 K2
  go_wp2_with fail
  obtain ⟨W, hW⟩ : ∃ W, W = w1.setCell ⟨w.heap.size + 1 + 1, 0, none⟩ (.slice (some ⟨g1, 0, none⟩) n n) := ⟨_, rfl⟩
  have M0 := L0.far (p := ⟨w.heap.size + 1 + 1, 0, none⟩) (by first | (simp; done) | (simp; omega)) (.slice (some ⟨g1, 0, none⟩) n n)
  have M1 := L1.far (p := ⟨w.heap.size + 1 + 1, 0, none⟩) (by first | (simp; done) | (simp; omega)) (.slice (some ⟨g1, 0, none⟩) n n)
  have M2 := L2.set_ 0 (.slice (some ⟨g1, 0, none⟩) n n)
  have o1' := o1.kept (only_set w1 (p := ⟨w.heap.size + 1 + 1, 0, none⟩) (.slice (some ⟨g1, 0, none⟩) n n)) (fun k hk e => by simp only [Value.ownBlock, Option.some.injEq] at hk; simp at e; omega)
  have bW : Below w.heap.size w (w1.setCell ⟨w.heap.size + 1 + 1, 0, none⟩ (.slice (some ⟨g1, 0, none⟩) n n)) := (below_go b0 hb1).setCell (by simp; omega) _
  rw [← hW] at M0 M1 M2 o1' bW ⊢
  have szW : W.heap.size = w1.heap.size := by rw [hW]; simp
  clear hW L0 L1 L2 c0 c1 f0 d0
  refine (laws_toLineS _ _ _ _ _ hm (g.below bW (Nat.le_refl _)) hz').mono ?_; rintro e w2 ⟨g2, rfl, o2, hb2⟩
  have N0 := M0.up hb2; have N1 := M1.up hb2; have N2 := M2.up hb2
  have c0 := N0.cell 0; have c1 := N0.cell 1; have d0 := N1.cell 0; have d1 := N1.cell 1; have e0 := N2.cell 0; have e1 := N2.cell 1
  have f0 := N1.frozen 0; have f1 := N1.frozen 1; have f2 := N2.frozen 0; have f3 := N2.frozen 1
  simp only [List.set_cons_zero, List.set_cons_succ, List.getElem?_cons_zero, List.getElem?_cons_succ] at c0 c1 d0 d1 e0 e1
  have r2 := o2.at_own
  rw [szW] at r2
  have HO1 := Lib.hid (o1'.up hb2)
  have HO2 := Lib.hid o2
  have HB := Lib.hid (below_go bW hb2)
  have HN1 := Lib.hid N1
  clear N0 N1 N2 M0 M1 M2 o1 o1' o2 h g
  go_wp2
  have Z := ((HN1.out.far (p := ⟨w.heap.size + 1 + 1, 1, none⟩) (by simp) (.slice (some ⟨g2, 0, none⟩) m m)).set_ 0 (.slice (some ⟨g1, 0, none⟩) n n)).set_ 1 (.slice (some ⟨g2, 0, none⟩) m m)
  have z0 := Z.cell 0; have z1 := Z.cell 1
  simp only [List.set_cons_zero, List.set_cons_succ, List.getElem?_cons_zero, List.getElem?_cons_succ] at z0 z1
  refine bodyPost_ret (v := .agg #[.slice (some ⟨g1, 0, none⟩) n n, .slice (some ⟨g2, 0, none⟩) m m]) (by simp [results, Tryd.results24, go_sem, z0, z1]) rfl ?_
  refine ⟨g1, g2, rfl, ?_, ?_, ?_⟩
  · have k2 := HO1.out.kept (only_set _ (p := ⟨w.heap.size + 1 + 1, 1, none⟩) (.slice (some ⟨g2, 0, none⟩) m m)) (fun k hk e => by simp only [Value.ownBlock, Option.some.injEq] at hk; simp at e; omega)
    have k3 := k2.kept (only_set _ (p := ⟨w.heap.size + 1, 0, none⟩) (.slice (some ⟨g1, 0, none⟩) n n)) (fun k hk e => by simp only [Value.ownBlock, Option.some.injEq] at hk; simp at e; omega)
    have k4 := k3.kept (only_set _ (p := ⟨w.heap.size + 1, 1, none⟩) (.slice (some ⟨g2, 0, none⟩) m m)) (fun k hk e => by simp only [Value.ownBlock, Option.some.injEq] at hk; simp at e; omega)
    exact k4.recs
  · have k2 := HO2.out.kept (only_set _ (p := ⟨w.heap.size + 1 + 1, 1, none⟩) (.slice (some ⟨g2, 0, none⟩) m m)) (fun k hk e => by simp only [Value.ownBlock, Option.some.injEq] at hk; simp at e; omega)
    have k3 := k2.kept (only_set _ (p := ⟨w.heap.size + 1, 0, none⟩) (.slice (some ⟨g1, 0, none⟩) n n)) (fun k hk e => by simp only [Value.ownBlock, Option.some.injEq] at hk; simp at e; omega)
    have k4 := k3.kept (only_set _ (p := ⟨w.heap.size + 1, 1, none⟩) (.slice (some ⟨g2, 0, none⟩) m m)) (fun k hk e => by simp only [Value.ownBlock, Option.some.injEq] at hk; simp at e; omega)
    exact k4.recs
  · exact ((HB.out.setCell (by simp; omega) _).setCell (by simp) _).setCell (by simp) _
theorem laws_eqProof (A B C D : Option Addr) (n m n' m' c d c' d' : Nat) (l l' : List ByteArray) (k k' : List Line3) (w : World) (hn : l.length = n) (hn' : l'.length = n') (hm : k.length = m) (hm' : k'.length = m') (h : Recs strE 1 w A l) (h' : Recs strE 1 w B l') (g : Recs lineE 3 w C k) (g' : Recs lineE 3 w D k') (hz : n ≤ 16777216) (hz' : n' ≤ 16777216) (hy : m ≤ 16777216) (hy' : m' ≤ 16777216) :
    Calls Tryd.prog 26 #[.agg #[.slice A n c, .slice C m d], .agg #[.slice B n' c', .slice D m' d']] w fun e w' => e = .returned (.bool (decide (l = l') && decide (k = k'))) ∧ Below w.heap.size w w' := by
  have b0 : Below w.heap.size w ((w.alloc (.cells #[.slice A n c, .slice C m d] 47)).alloc (.cells #[.slice B n' c', .slice D m' d'] 47)) := by (repeat' (first | (with_reducible exact Below.refl _ _) | (with_reducible assumption) | (with_reducible refine below_drewN ?_ _) | (with_reducible refine Below.drew ?_) | (with_reducible refine below_alloc ?_ _) | (with_reducible refine Below.alloc ?_ ?_ _) | (with_reducible refine Below.setCell ?_ ?_ _) | (with_reducible refine below_go ?_ (by with_reducible assumption)) | (with_reducible refine below_then (by with_reducible assumption) ?_ ?_) | go_size))
  have K0 := (Blk.at_ w 47 [.slice A n c, .slice C m d] (b := w.heap.size) rfl).alloc (.cells #[.slice B n' c', .slice D m' d'] 47)
  have K1 := Blk.at_ (w.alloc (.cells #[.slice A n c, .slice C m d] 47)) 47 [.slice B n' c', .slice D m' d'] (b := w.heap.size + 1) (by simp)
  rcases h1 : decide (l = l')
  · go_in
    go_wp2_with (first | (go_at_call 15; refine (laws_eqStringS _ _ _ _ _ _ _ _ _ hn hn' (h.up b0) (h'.up b0) hz hz').mono ?_; rw [h1]; rintro e w1 ⟨rfl, hb1⟩))
    go_ret
    exact ⟨rfl, below_go b0 hb1⟩
  · rcases h2 : decide (k = k')
    · go_in
      go_wp2_with (first | (go_at_call 15; refine (laws_eqStringS _ _ _ _ _ _ _ _ _ hn hn' (h.up b0) (h'.up b0) hz hz').mono ?_; rw [h1]; rintro e w1 ⟨rfl, hb1⟩; have L0 := K0.up hb1; have L1 := K1.up hb1; have c1 := L0.cell 1; have d1 := L1.cell 1; simp only [List.getElem?_cons_zero, List.getElem?_cons_succ] at c1 d1; clear L0 L1) | (go_at_call 57; refine (laws_eqLineS _ _ _ _ _ _ _ _ _ hm hm' ((g.up b0).up hb1) ((g'.up b0).up hb1) hy hy').mono ?_; rw [h2]; rintro e w2 ⟨rfl, hb2⟩))
      go_ret
      exact ⟨rfl, below_go (below_go b0 hb1) hb2⟩
    · go_in
      go_wp2_with (first | (go_at_call 15; refine (laws_eqStringS _ _ _ _ _ _ _ _ _ hn hn' (h.up b0) (h'.up b0) hz hz').mono ?_; rw [h1]; rintro e w1 ⟨rfl, hb1⟩; have L0 := K0.up hb1; have L1 := K1.up hb1; have c1 := L0.cell 1; have d1 := L1.cell 1; simp only [List.getElem?_cons_zero, List.getElem?_cons_succ] at c1 d1; clear L0 L1) | (go_at_call 57; refine (laws_eqLineS _ _ _ _ _ _ _ _ _ hm hm' ((g.up b0).up hb1) ((g'.up b0).up hb1) hy hy').mono ?_; rw [h2]; rintro e w2 ⟨rfl, hb2⟩))
      go_ret
      exact ⟨rfl, below_go (below_go b0 hb1) hb2⟩
end Go.Proofs.YtmlhdchglhkhiaaDoor
