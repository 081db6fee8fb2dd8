/- The walks through BestMatch, both sides. -/
import Derived.Test.YtdnbdnfoogjcmaaW22s
namespace Go.Proofs.Ytdnbdnfoogjcmaa
set_option linter.unusedVariables false
set_option linter.unusedSimpArgs false
open Go.ChangeShapes Go.WideShapes Go.ChangeAt Go.RowKit Go.Deep
theorem impl_BestMatch {A B : Option Addr} {n m c d : Nat} {a b : List Int} {s : Int} {w : World} (hn : a.length = n) (h : Ints w A a) (hz : n ≤ 1048576) (hm : b.length = m) (g : Ints w B b) (hz' : m ≤ 1048576) :
    Calls Try.prog 9 #[.slice A n c, .slice B m d, .int .i64 s] w fun e w' => ∃ A' c', e = .returned (.tuple #[.agg #[.slice A' (bestOf a b s).length c', .int .i64 (bestCost a b s)], .bool (askedM a b s)]) ∧ Owned intE 1 3 w' w.heap.size A' (bestOf a b s).length c' (bestOf a b s) ∧ (bestOf a b s).length ≤ 16777216 ∧ Below w.heap.size w w' := by
  subst hn hm
  have b0 : Below w.heap.size w (w.alloc (.cells #[.slice none 0 0, .int .i64 0] 30)) := by (repeat' (first | (with_reducible exact Below.refl _ _) | (with_reducible assumption) | (with_reducible refine below_drewN ?_ _) | (with_reducible refine Below.drew ?_) | (with_reducible refine below_alloc ?_ _) | (with_reducible refine Below.alloc ?_ ?_ _) | (with_reducible refine Below.setCell ?_ ?_ _) | (with_reducible refine below_go ?_ (by with_reducible assumption)) | (with_reducible refine below_then (by with_reducible assumption) ?_ ?_) | go_size))
  have K0 := Blk.at_ w 30 [.slice none 0 0, .int .i64 0] (b := w.heap.size) rfl
  rcases h1 : askedM a b s
  · have e1 := (best_f h1).1
    have e2 := (best_f h1).2
    rw [e1, e2]
    have f0 := K0.frozen 0; have f1 := K0.frozen 1; have d0 := K0.cell 0; have d1 := K0.cell 1
    simp only [List.getElem?_cons_zero, List.getElem?_cons_succ] at d0 d1
    have HK := Lib.hid K0
    clear K0 e1 e2
    go_in
    go_wp2_with (first | (go_at_call 35; refine (impl_goodMatching rfl rfl (h.up b0) (g.up b0) (by omega) (by omega)).mono ?_; rintro e w' ⟨rfl, rfl⟩; rw [h1]))
    have Z := (HK.out.set_ 0 (.slice none 0 0)).set_ 1 (.int .i64 0)
    have z0 := Z.cell 0; have z1 := Z.cell 1
    simp only [List.set_cons_zero, List.set_cons_succ, List.getElem?_cons_zero, List.getElem?_cons_succ] at z0 z1
    refine bodyPost_ret (v := .tuple #[.agg #[.slice none 0 0, .int .i64 0], .bool false]) (by simp [results, Try.results9, go_sem, z0, z1]) rfl ?_
    exact ⟨none, 0, rfl, Owned.nil intE_len _ _ _, by decide, b0⟩
  · have e1 := (best_t h1).1
    have e2 := (best_t h1).2
    rw [e1, e2]
    have hl := bestGo_len a b s a.length 0 0
    have ha := (askedM_t h1).1.1
    rw [hl]
    clear e1 e2
    go_in
    go_wp2_with (first | (go_at_call 35; refine (impl_goodMatching rfl rfl (h.up b0) (g.up b0) (by omega) (by omega)).mono ?_; rintro e w' ⟨rfl, rfl⟩; rw [h1]) | (go_at_call 41; refine (impl_bestMatch rfl rfl (h.up b0) (g.up b0) h1).mono ?_; rintro e w1 ⟨A', c', rfl, ho, hb1⟩; have KB := K0.up hb1; have f0 := KB.frozen 0; have f1 := KB.frozen 1; have d0 := KB.cell 0; have d1 := KB.cell 1; simp only [List.getElem?_cons_zero, List.getElem?_cons_succ] at d0 d1; have HK := Lib.hid KB; have HO := Lib.hid ho; clear K0 KB ho))
    have hsz := hb1.size
    simp only [World.size_alloc] at hsz
    have Z := (HK.out.set_ 0 (.slice A' a.length c')).set_ 1 (.int .i64 (pAt a b s 0 0))
    have z0 := Z.cell 0; have z1 := Z.cell 1
    simp only [List.set_cons_zero, List.set_cons_succ, List.getElem?_cons_zero, List.getElem?_cons_succ] at z0 z1
    refine bodyPost_ret (v := .tuple #[.agg #[.slice A' a.length c', .int .i64 (pAt a b s 0 0)], .bool true]) (by simp [results, Try.results9, go_sem, z0, z1]) rfl ?_
    have k1 := HO.out.kept (only_set w1 (p := ⟨w.heap.size, 0, none⟩) (.slice A' a.length c')) (fun k hk e => by have := (HO.out.blk hk).1; simp at e this; omega)
    have k2 := k1.kept (only_set _ (p := ⟨w.heap.size, 1, none⟩) (.int .i64 (pAt a b s 0 0))) (fun k hk e => by have := (HO.out.blk hk).1; simp at e this; omega)
    exact ⟨A', c', rfl, k2.base_le (by simp), by omega, ((below_go b0 hb1).setCell (by simp) _).setCell (by simp) _⟩
theorem spec_BestMatch {A B : Option Addr} {n m c d : Nat} {a b : List Int} {s : Int} {w : World} (hn : a.length = n) (h : Ints w A a) (hz : n ≤ 1048576) (hm : b.length = m) (g : Ints w B b) (hz' : m ≤ 1048576) :
    Calls Try.prog 10 #[.slice A n c, .slice B m d, .int .i64 s] w fun e w' => ∃ A' c', e = .returned (.tuple #[.agg #[.slice A' (bestOf a b s).length c', .int .i64 (bestCost a b s)], .bool (askedM a b s)]) ∧ Owned intE 1 3 w' w.heap.size A' (bestOf a b s).length c' (bestOf a b s) ∧ (bestOf a b s).length ≤ 16777216 ∧ Below w.heap.size w w' := by
  subst hn hm
  have b0 : Below w.heap.size w (w.alloc (.cells #[.slice none 0 0, .int .i64 0] 30)) := by (repeat' (first | (with_reducible exact Below.refl _ _) | (with_reducible assumption) | (with_reducible refine below_drewN ?_ _) | (with_reducible refine Below.drew ?_) | (with_reducible refine below_alloc ?_ _) | (with_reducible refine Below.alloc ?_ ?_ _) | (with_reducible refine Below.setCell ?_ ?_ _) | (with_reducible refine below_go ?_ (by with_reducible assumption)) | (with_reducible refine below_then (by with_reducible assumption) ?_ ?_) | go_size))
  have K0 := Blk.at_ w 30 [.slice none 0 0, .int .i64 0] (b := w.heap.size) rfl
  rcases h1 : askedM a b s
  · have e1 := (best_f h1).1
    have e2 := (best_f h1).2
    rw [e1, e2]
    have f0 := K0.frozen 0; have f1 := K0.frozen 1; have d0 := K0.cell 0; have d1 := K0.cell 1
    simp only [List.getElem?_cons_zero, List.getElem?_cons_succ] at d0 d1
    have HK := Lib.hid K0
    clear K0 e1 e2
    go_in
    go_wp2_with (first | (go_at_call 38; refine (spec_l22Asked rfl rfl (h.up b0) (g.up b0) (by omega) (by omega)).mono ?_; rintro e w' ⟨rfl, rfl⟩; rw [h1]))
    have Z := (HK.out.set_ 0 (.slice none 0 0)).set_ 1 (.int .i64 0)
    have z0 := Z.cell 0; have z1 := Z.cell 1
    simp only [List.set_cons_zero, List.set_cons_succ, List.getElem?_cons_zero, List.getElem?_cons_succ] at z0 z1
    refine bodyPost_ret (v := .tuple #[.agg #[.slice none 0 0, .int .i64 0], .bool false]) (by simp [results, Try.results10, go_sem, z0, z1]) rfl ?_
    exact ⟨none, 0, rfl, Owned.nil intE_len _ _ _, by decide, b0⟩
  · have e1 := (best_t h1).1
    have e2 := (best_t h1).2
    rw [e1, e2]
    have hl := bestGo_len a b s a.length 0 0
    have ha := (askedM_t h1).1.1
    rw [hl]
    clear e1 e2
    go_in
    go_wp2_with (first | (go_at_call 38; refine (spec_l22Asked rfl rfl (h.up b0) (g.up b0) (by omega) (by omega)).mono ?_; rintro e w' ⟨rfl, rfl⟩; rw [h1]) | (go_at_call 42; refine (spec_l22Best rfl rfl (h.up b0) (g.up b0) h1).mono ?_; rintro e w1 ⟨A', c', rfl, ho, hb1⟩; have KB := K0.up hb1; have f0 := KB.frozen 0; have f1 := KB.frozen 1; have d0 := KB.cell 0; have d1 := KB.cell 1; simp only [List.getElem?_cons_zero, List.getElem?_cons_succ] at d0 d1; have HK := Lib.hid KB; have HO := Lib.hid ho; clear K0 KB ho))
    have hsz := hb1.size
    simp only [World.size_alloc] at hsz
    have Z := (HK.out.set_ 0 (.slice A' a.length c')).set_ 1 (.int .i64 (pAt a b s 0 0))
    have z0 := Z.cell 0; have z1 := Z.cell 1
    simp only [List.set_cons_zero, List.set_cons_succ, List.getElem?_cons_zero, List.getElem?_cons_succ] at z0 z1
    refine bodyPost_ret (v := .tuple #[.agg #[.slice A' a.length c', .int .i64 (pAt a b s 0 0)], .bool true]) (by simp [results, Try.results10, go_sem, z0, z1]) rfl ?_
    have k1 := HO.out.kept (only_set w1 (p := ⟨w.heap.size, 0, none⟩) (.slice A' a.length c')) (fun k hk e => by have := (HO.out.blk hk).1; simp at e this; omega)
    have k2 := k1.kept (only_set _ (p := ⟨w.heap.size, 1, none⟩) (.int .i64 (pAt a b s 0 0))) (fun k hk e => by have := (HO.out.blk hk).1; simp at e this; omega)
    exact ⟨A', c', rfl, k2.base_le (by simp), by omega, ((below_go b0 hb1).setCell (by simp) _).setCell (by simp) _⟩
end Go.Proofs.Ytdnbdnfoogjcmaa
