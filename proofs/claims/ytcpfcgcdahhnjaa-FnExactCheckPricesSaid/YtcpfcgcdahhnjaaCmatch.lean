/- The laws' own conversions of impl.Match: copying, comparing, counting, marking. -/
import Derived.Test.YtcpfcgcdahhnjaaCints
namespace Go.Proofs.Ytcpfcgcdahhnjaa
set_option linter.unusedVariables false
set_option linter.unusedSimpArgs false
open Go.ChangeShapes Go.WideShapes Go.ChangeAt Go.RowKit Go.Deep
theorem laws_toMatch (A : Option Addr) (n c : Nat) (l : List Int) (x : Int) (w : World) (hn : l.length = n) (h : Recs intE 1 w A l) (hz : n ≤ 1048576) :
    Calls Try.prog 42 #[.agg #[.slice A n c, .int .i64 x]] w fun e w' => ∃ g, e = .returned (.agg #[.slice (some ⟨g, 0, none⟩) n n, .int .i64 x]) ∧ Owned intE 1 3 w' w.heap.size (some ⟨g, 0, none⟩) n n l ∧ Below w.heap.size w w' := by
  go_in
  go_wp2_with fail
  refine (laws_toIntS _ _ _ _ _ hn (((h.up ((Below.refl _ _).alloc (Nat.le_refl _) _)).up ((Below.refl _ _).alloc (Nat.le_refl _) _)).up ((Below.refl _ _).alloc (Nat.le_refl _) _)) hz).mono ?_; rintro e w1 ⟨g, rfl, ho, hb1⟩
  have b0 : Below w.heap.size w (((w.alloc (.cells #[.slice A n c, .int .i64 x] 53)).alloc (.cells #[.slice none 0 0, .int .i64 0] 48)).alloc (.cells #[.slice none 0 0, .int .i64 0] 48)) := by (repeat' (first | (with_reducible exact Below.refl _ _) | (with_reducible assumption) | (with_reducible refine below_drewN ?_ _) | (with_reducible refine Below.drew ?_) | (with_reducible refine below_alloc ?_ _) | (with_reducible refine Below.alloc ?_ ?_ _) | (with_reducible refine Below.setCell ?_ ?_ _) | (with_reducible refine below_go ?_ (by with_reducible assumption)) | (with_reducible refine below_then (by with_reducible assumption) ?_ ?_) | go_size))
  have K0 := ((Blk.at_ w 53 [.slice A n c, .int .i64 x] (b := w.heap.size) rfl).alloc (.cells #[.slice none 0 0, .int .i64 0] 48)).alloc (.cells #[.slice none 0 0, .int .i64 0] 48) |>.up hb1
  have K1 := ((Blk.at_ (w.alloc (.cells #[.slice A n c, .int .i64 x] 53)) 48 [.slice none 0 0, .int .i64 0] (b := w.heap.size + 1) (by simp)).alloc (.cells #[.slice none 0 0, .int .i64 0] 48)).up hb1
  have K2 := (Blk.at_ ((w.alloc (.cells #[.slice A n c, .int .i64 x] 53)).alloc (.cells #[.slice none 0 0, .int .i64 0] 48)) 48 [.slice none 0 0, .int .i64 0] (b := w.heap.size + 1 + 1) (by simp)).up hb1
  have c0 := K0.cell 0; have c1 := K0.cell 1; have d0 := K1.cell 0; have d1 := K1.cell 1; have e0 := K2.cell 0; have e1 := K2.cell 1
  have f0 := K1.frozen 0; have f1 := K1.frozen 1; have f2 := K2.frozen 0; have f3 := K2.frozen 1
  simp only [List.getElem?_cons_zero, List.getElem?_cons_succ] at c0 c1 d0 d1 e0 e1
  have HO := Lib.hid ho
  have HB := Lib.hid (below_go b0 hb1)
  have HK1 := Lib.hid K1
  have HK2 := Lib.hid K2
  have hs := hb1.size
  simp only [World.size_alloc] at hs
  clear K0 K1 K2 hb1 ho h b0
  go_wp2
  have Z := (((HK1.out.far (p := ⟨w.heap.size + 1 + 1, 0, none⟩) (by simp) (.slice (some ⟨g, 0, none⟩) n n)).far (p := ⟨w.heap.size + 1 + 1, 1, none⟩) (by simp) (.int .i64 x)).set_ 0 (.slice (some ⟨g, 0, none⟩) n n)).set_ 1 (.int .i64 x)
  have z0 := Z.cell 0; have z1 := Z.cell 1
  simp only [List.set_cons_zero, List.set_cons_succ, List.getElem?_cons_zero, List.getElem?_cons_succ] at z0 z1
  refine bodyPost_ret (v := .agg #[.slice (some ⟨g, 0, none⟩) n n, .int .i64 x]) (by simp [results, Try.results42, go_sem, z0, z1]) rfl ?_
  have r := HO.out.at_own
  have hg : w.heap.size + 1 + 1 < g := by have := r.1; simp only [World.size_alloc] at this; omega
  refine ⟨g, rfl, ?_, ?_⟩
  · have k1 := HO.out.kept (only_set w1 (p := ⟨w.heap.size + 1 + 1, 0, none⟩) (.slice (some ⟨g, 0, none⟩) n n)) (fun k hk e => by simp only [Value.ownBlock, Option.some.injEq] at hk; simp at e; omega)
    have k2 := k1.kept (only_set _ (p := ⟨w.heap.size + 1 + 1, 1, none⟩) (.int .i64 x)) (fun k hk e => by simp only [Value.ownBlock, Option.some.injEq] at hk; simp at e; omega)
    have k3 := k2.kept (only_set _ (p := ⟨w.heap.size + 1, 0, none⟩) (.slice (some ⟨g, 0, none⟩) n n)) (fun k hk e => by simp only [Value.ownBlock, Option.some.injEq] at hk; simp at e; omega)
    have k4 := k3.kept (only_set _ (p := ⟨w.heap.size + 1, 1, none⟩) (.int .i64 x)) (fun k hk e => by simp only [Value.ownBlock, Option.some.injEq] at hk; simp at e; omega)
    exact k4.base_le (by simp only [World.size_alloc]; omega)
  · exact (((HB.out.setCell (by simp; omega) _).setCell (by simp; omega) _).setCell (by simp) _).setCell (by simp) _
theorem laws_eqMatch (A C : Option Addr) (n n' c d : Nat) (l m : List Int) (x y : Int) (w : World) (hn : l.length = n) (hn' : m.length = n') (h : Recs intE 1 w A l) (g : Recs intE 1 w C m) (hz : n ≤ 16777216) (hz' : n' ≤ 16777216) :
    Calls Try.prog 35 #[.agg #[.slice A n c, .int .i64 x], .agg #[.slice C n' d, .int .i64 y]] w fun e w' => e = .returned (.bool (decide (l = m ∧ x = y))) ∧ Below w.heap.size w w' := by
  have b0 : Below w.heap.size w ((w.alloc (.cells #[.slice A n c, .int .i64 x] 48)).alloc (.cells #[.slice C n' d, .int .i64 y] 48)) := by (repeat' (first | (with_reducible exact Below.refl _ _) | (with_reducible assumption) | (with_reducible refine below_drewN ?_ _) | (with_reducible refine Below.drew ?_) | (with_reducible refine below_alloc ?_ _) | (with_reducible refine Below.alloc ?_ ?_ _) | (with_reducible refine Below.setCell ?_ ?_ _) | (with_reducible refine below_go ?_ (by with_reducible assumption)) | (with_reducible refine below_then (by with_reducible assumption) ?_ ?_) | go_size))
  go_in
  go_wp2_with fail
  refine (laws_eqIntS _ _ _ _ _ _ _ _ _ hn hn' (h.up b0) (g.up b0) hz hz').mono ?_; rintro e w1 ⟨rfl, hb1⟩
  have B0 := ((Box.new w [.slice A n c, .int .i64 x] 48).alloc (.cells #[.slice C n' d, .int .i64 y] 48)).up hb1
  have B1 := (Box.at_ (w.alloc (.cells #[.slice A n c, .int .i64 x] 48)) [.slice C n' d, .int .i64 y] 48 (b := w.heap.size + 1) (by simp)).up hb1
  have c1 := B0 1 _ rfl; have d1 := B1 1 _ rfl
  have HB := Lib.hid (below_go b0 hb1)
  clear B0 B1 h g b0 hb1
  by_cases hl : l = m
  · have hd : decide (l = m) = true := decide_eq_true hl
    rw [hd]
    have HL := Lib.hid hl
    clear hl hd
    go_wp2
    all_goals go_ret
    all_goals refine ⟨ret_bool ?_, HB.out⟩
    all_goals simp_all [HL.out]
  · have hd : decide (l = m) = false := decide_eq_false hl
    rw [hd]
    have HL := Lib.hid hl
    clear hl hd
    go_wp2
    go_ret
    refine ⟨ret_bool ?_, HB.out⟩
    simp [HL.out]
theorem laws_markMatch (A : Option Addr) (n c base : Nat) (l : List Int) (x k0 : Int) (w : World) (h : Owned intE 1 3 w base A n c l) (hbase : base ≤ w.heap.size) (hz : n ≤ 16777216) (hk0 : 0 ≤ k0 ∧ k0 ≤ 1099511627776) :
    Calls Try.prog 36 #[.agg #[.slice A n c, .int .i64 x], .int .i64 k0] w fun e w' => e = .returned (.int .i64 (k0 + (n : Int))) ∧ Owned intE 1 3 w' base A n c ((List.range n).map (markInt k0)) ∧ w.grownBy w' (Value.slice A n c).ownBlock ∧ Below base w w' := by
  have b0 : Below w.heap.size w (w.alloc (.cells #[.slice A n c, .int .i64 x] 48)) := by (repeat' (first | (with_reducible exact Below.refl _ _) | (with_reducible assumption) | (with_reducible refine below_drewN ?_ _) | (with_reducible refine Below.drew ?_) | (with_reducible refine below_alloc ?_ _) | (with_reducible refine Below.alloc ?_ ?_ _) | (with_reducible refine Below.setCell ?_ ?_ _) | (with_reducible refine below_go ?_ (by with_reducible assumption)) | (with_reducible refine below_then (by with_reducible assumption) ?_ ?_) | go_size))
  have g0 : w.grownBy (w.alloc (.cells #[.slice A n c, .int .i64 x] 48)) (Value.slice A n c).ownBlock := World.grownBy_alloc _ _ _
  go_in
  go_wp2_with fail
  refine (laws_markIntS _ _ _ _ _ _ _ (h.up b0) (by simp; omega) hz hk0).mono ?_; rintro e w1 ⟨rfl, ho, hg, hb1⟩
  go_wp2
  go_ret
  exact ⟨rfl, ho, grownBy_trans g0 hg, (b0.mono hbase).trans hb1⟩
theorem laws_heldMatch (A : Option Addr) (n c : Nat) (x k0 : Int) (w : World) (h : Recs intE 1 w A ((List.range n).map (markInt k0))) (hz : n ≤ 16777216) (hk0 : 0 ≤ k0 ∧ k0 ≤ 1099511627776) :
    Calls Try.prog 37 #[.agg #[.slice A n c, .int .i64 x], .int .i64 k0] w fun e w' => e = .returned (.int .i64 (k0 + (n : Int))) ∧ Below w.heap.size w w' := by
  have b0 : Below w.heap.size w (w.alloc (.cells #[.slice A n c, .int .i64 x] 48)) := by (repeat' (first | (with_reducible exact Below.refl _ _) | (with_reducible assumption) | (with_reducible refine below_drewN ?_ _) | (with_reducible refine Below.drew ?_) | (with_reducible refine below_alloc ?_ _) | (with_reducible refine Below.alloc ?_ ?_ _) | (with_reducible refine Below.setCell ?_ ?_ _) | (with_reducible refine below_go ?_ (by with_reducible assumption)) | (with_reducible refine below_then (by with_reducible assumption) ?_ ?_) | go_size))
  go_in
  go_wp2_with fail
  refine (laws_heldIntS _ _ _ _ _ (h.up b0) hz hk0).mono ?_; rintro e w' ⟨rfl, rfl⟩
  go_wp2
  go_ret
  exact ⟨rfl, b0⟩
theorem laws_szMatch_ok (A : Option Addr) (n c : Nat) (x left : Int) (w : World) (h : (n : Int) ≤ left) (h' : left ≤ 1048576) :
    Calls Try.prog 39 #[.agg #[.slice A n c, .int .i64 x], .int .i64 left] w fun e w' => e = .returned (.int .i64 (left - n)) ∧ Below w.heap.size w w' := by
  go_in
  go_wp2_with fail
  refine (laws_szIntS_ok _ _ _ _ _ h h').mono ?_; rintro e w' ⟨rfl, rfl⟩
  go_wp2
  go_ret
  exact ⟨rfl, by (repeat' (first | (with_reducible exact Below.refl _ _) | (with_reducible assumption) | (with_reducible refine below_drewN ?_ _) | (with_reducible refine Below.drew ?_) | (with_reducible refine below_alloc ?_ _) | (with_reducible refine Below.alloc ?_ ?_ _) | (with_reducible refine Below.setCell ?_ ?_ _) | (with_reducible refine below_go ?_ (by with_reducible assumption)) | (with_reducible refine below_then (by with_reducible assumption) ?_ ?_) | go_size))⟩
theorem laws_szMatch_no (A : Option Addr) (n c : Nat) (x left : Int) (w : World) (h : left < (n : Int)) (h' : 0 ≤ left) (h2 : n ≤ 9223372036854775807) :
    Calls Try.prog 39 #[.agg #[.slice A n c, .int .i64 x], .int .i64 left] w fun e w' => e = .returned (.int .i64 (-1)) ∧ Below w.heap.size w w' := by
  go_in
  go_wp2_with fail
  refine (laws_szIntS_no _ _ _ _ _ h h' h2).mono ?_; rintro e w' ⟨rfl, rfl⟩
  go_wp2
  go_ret
  exact ⟨rfl, by (repeat' (first | (with_reducible exact Below.refl _ _) | (with_reducible assumption) | (with_reducible refine below_drewN ?_ _) | (with_reducible refine Below.drew ?_) | (with_reducible refine below_alloc ?_ _) | (with_reducible refine Below.alloc ?_ ?_ _) | (with_reducible refine Below.setCell ?_ ?_ _) | (with_reducible refine below_go ?_ (by with_reducible assumption)) | (with_reducible refine below_then (by with_reducible assumption) ?_ ?_) | go_size))⟩
end Go.Proofs.Ytcpfcgcdahhnjaa
