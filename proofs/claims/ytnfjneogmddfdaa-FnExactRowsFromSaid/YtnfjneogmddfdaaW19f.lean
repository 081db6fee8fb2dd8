/- The walks through RowsFrom, both sides. -/
import Derived.Test.YtnfjneogmddfdaaW04a
import Derived.Test.YtnfjneogmddfdaaP19
import Derived.Deep.RegionHeld3
namespace Go.Proofs.Ytnfjneogmddfdaa
set_option linter.unusedVariables false
set_option linter.unusedSimpArgs false
open Go.ChangeShapes Go.WideShapes Go.ChangeAt Go.RowKit Go.Deep
theorem Recs.take {α : Type} {e : α → List Value} {s : Nat} {w : World} {A : Option Addr} {l : List α} (h : Recs e s w A l) (m : Nat) : Recs e s w A (l.take m) := by
  refine ⟨h.1, by rw [flatMap_len h.1], fun hn => ?_⟩
  have h0 : 0 < l.length := by rw [List.length_take] at hn; omega
  obtain ⟨b, off, hA, hb, hc⟩ := h.2.2 h0
  refine ⟨b, off, hA, hb, fun j u hu => hc j u ?_⟩
  have e1 : l.flatMap e = (l.take m).flatMap e ++ (l.drop m).flatMap e := by rw [← List.flatMap_append, List.take_append_drop]
  rw [e1, List.getElem?_append_left (List.getElem?_eq_some_iff.1 hu).1]
  exact hu
set_option maxRecDepth 100000 in
theorem spec_RowsFrom {A : Option Addr} {N c : Nat} {l : List ByteArray} {n : Int} {w : World} (hN : l.length = N) (h : Strs w A l) (hz : N ≤ 16000000) (hs : ∀ s ∈ l, s.size ≤ 16777216) (hn : I64 n) :
    Calls Try.prog 25 #[.int .i64 n, .slice A N c] w fun e w' => ∃ A' c', e = .returned (.tuple #[.slice A' (fromR n l).length c', .bool (okFrom n l)]) ∧
      Owned strE 1 9 w' w.heap.size A' (fromR n l).length c' (fromR n l) ∧ (fromR n l).length ≤ 16777216 ∧ Below w.heap.size w w' := by
  subst hN
  have HG : Hid (okFrom n l = ((List.range l.length).all (okCh n l) && (inB n 3 8 && inB l.length 1 800))) := Lib.hid rfl
  have HF : Hid (okFrom n l = false → fromR n l = []) := Lib.hid fromR_f
  have HS := Lib.hid hs
  go_in
  go_wp2
  go_loopw [12] (fun i wr => ∃ k : Nat, k ≤ l.length ∧ i = .int .i64 k ∧ Hid (∀ j, j < k → okCh n l j = true) ∧ w = wr) (fun i _ => l.length - (intOf i).toNat)
  case atStart => exact ⟨0, Nat.zero_le _, rfl, Lib.hid (fun j hj => absurd hj (by omega)), rfl⟩
  case round =>
    obtain ⟨k, hk, rfl, HK, rfl⟩ := hrel
    by_cases hlt : k < l.length
    · obtain ⟨b1, o1, y, rfl, hbb, hy, hcy⟩ := h.at_str hlt
      have hys := HS.out y (List.mem_of_getElem? hy)
      have EC := Lib.hid (okCh_at (n := n) hy)
      clear hy
      rcases hg : goodChange n y
      · have e0 := Lib.hid (show okFrom n l = false by rw [HG.out, all_bad hlt (by rw [EC.out, hg])])
        go_wp2_with (first | (go_at_call 41; refine (spec_l2Change hys hn).mono ?_; rintro e w' ⟨rfl, rfl⟩))
        go_ret2
        rw [HF.out e0.out, e0.out]
        exact ⟨none, 0, rfl, Owned.nil strE_len _ _ _, by decide, Below.refl _ _⟩
      · have e0 := Lib.hid (show okCh n l k = true by rw [EC.out, hg])
        go_wp2_with (first | (go_at_call 41; refine (spec_l2Change hys hn).mono ?_; rintro e w' ⟨rfl, rfl⟩))
        go_roundw
        case rel => exact ⟨k + 1, by omega, by go_num, Lib.hid (upto_succ HK.out e0.out), trivial⟩
        case measure => simp [intOf]; omega
    · obtain rfl : k = l.length := by omega
      have HG2 := Lib.hid (show okFrom n l = (inB n 3 8 && inB l.length 1 800) by rw [HG.out, all_good (fun j hj => HK.out j hj)])
      rcases h1 : inB n 3 8
      · have e0 := Lib.hid (show okFrom n l = false by rw [HG2.out, h1]; rfl)
        go_wp2_with (first | (go_at_call 52; refine (spec_l1In _ _ _ _).mono ?_; rintro e w' ⟨rfl, rfl⟩))
        go_ret2
        rw [HF.out e0.out, e0.out]
        exact ⟨none, 0, rfl, Owned.nil strE_len _ _ _, by decide, Below.refl _ _⟩
      have hn3 := inB_t h1
      rcases h2 : inB l.length 1 800
      · have e0 := Lib.hid (show okFrom n l = false by rw [HG2.out, h1, h2]; rfl)
        go_wp2_with (first | (go_at_call 52; refine (spec_l1In _ _ _ _).mono ?_; rintro e w' ⟨rfl, rfl⟩))
        go_ret2
        rw [HF.out e0.out, e0.out]
        exact ⟨none, 0, rfl, Owned.nil strE_len _ _ _, by decide, Below.refl _ _⟩
      have e0 := Lib.hid (show okFrom n l = true by rw [HG2.out, h1, h2]; rfl)
      obtain ⟨m, rfl⟩ := Int.eq_ofNat_of_zero_le (show 0 ≤ n by omega)
      have hm : m ≤ 8 := by omega
      have hrs : (roundsS m).size ≤ 8 := by rw [rounds_size m (by omega)]; exact hm
      have ER := Lib.hid (fromR_t e0.out)
      go_wp2_with (first | (go_at_call 52; refine (spec_l1In _ _ _ _).mono ?_; rintro e w' ⟨rfl, rfl⟩) | (go_at_call 54; refine (spec_l1Rounds hm).mono ?_; rintro e w' ⟨rfl, rfl⟩) | (go_at_call 53; refine (spec_l4Lead hrs rfl h hz hs).mono ?_; rintro e w1 ⟨A1, c1, rfl, ho1, hb1⟩))
      go_ret2
      rw [ER.out, e0.out, rowsL_len]
      exact ⟨A1, c1, rfl, ho1, by omega, hb1⟩
set_option maxRecDepth 100000 in
theorem impl_RowsFrom {A : Option Addr} {N c : Nat} {l : List ByteArray} {n : Int} {w : World} (hN : l.length = N) (h : Strs w A l) (hz : N ≤ 16000000) (hs : ∀ s ∈ l, s.size ≤ 16777216) (hcap : N ≤ c) :
    Calls Try.prog 26 #[.int .i64 n, .slice A N c] w fun e w' => ∃ A' c', e = .returned (.tuple #[.slice A' (fromR n l).length c', .bool (okFrom n l)]) ∧
      Owned strE 1 9 w' w.heap.size A' (fromR n l).length c' (fromR n l) ∧ (fromR n l).length ≤ 16777216 ∧ Below w.heap.size w w' := by
  subst hN
  have HG : Hid (okFrom n l = ((List.range l.length).all (okCh n l) && (inB n 3 8 && inB l.length 1 800))) := Lib.hid rfl
  have HF : Hid (okFrom n l = false → fromR n l = []) := Lib.hid fromR_f
  have HS := Lib.hid hs
  rcases h1 : inB n 3 8
  · have e0 := Lib.hid (show okFrom n l = false by rw [HG.out, h1, Bool.false_and, Bool.and_false])
    go_in
    go_wp2_with (first | (go_at_call 55; refine (impl_isStage _ _).mono ?_; rintro e w' ⟨rfl, rfl⟩))
    go_ret2
    rw [HF.out e0.out, e0.out]
    exact ⟨none, 0, rfl, Owned.nil strE_len _ _ _, by decide, Below.refl _ _⟩
  have hn3 := inB_t h1
  rcases h2 : inB l.length 1 800
  · have e0 := Lib.hid (show okFrom n l = false by rw [HG.out, h1, h2, Bool.and_false, Bool.and_false])
    go_in
    go_wp2_with (first | (go_at_call 55; refine (impl_isStage _ _).mono ?_; rintro e w' ⟨rfl, rfl⟩) | (go_at_call 56; refine (impl_within _ _ _ _).mono ?_; rintro e w' ⟨rfl, rfl⟩))
    go_ret2
    rw [HF.out e0.out, e0.out]
    exact ⟨none, 0, rfl, Owned.nil strE_len _ _ _, by decide, Below.refl _ _⟩
  have hl8 := inB_t h2
  obtain ⟨m, rfl⟩ := Int.eq_ofNat_of_zero_le (show 0 ≤ n by omega)
  have hm : m ≤ 8 := by omega
  have hrs : (roundsS m).size ≤ 8 := by rw [rounds_size m (by omega)]; exact hm
  go_in
  go_wp2_with (first | (go_at_call 55; refine (impl_isStage _ _).mono ?_; rintro e w' ⟨rfl, rfl⟩) | (go_at_call 56; refine (impl_within _ _ _ _).mono ?_; rintro e w' ⟨rfl, rfl⟩))
  go_loopw [19] (fun i wr => ∃ k : Nat, k ≤ l.length ∧ i = .int .i64 k ∧ Hid (∀ j, j < k → okCh m l j = true) ∧ Below w.heap.size w wr) (fun i _ => l.length - (intOf i).toNat)
  case atStart => exact ⟨0, Nat.zero_le _, rfl, Lib.hid (fun j hj => absurd hj (by omega)), Below.refl _ _⟩
  case round =>
    obtain ⟨k, hk, rfl, HK, hb⟩ := hrel
    by_cases hlt : k < l.length
    · obtain ⟨b1, o1, y, rfl, hbb, hy, hcy⟩ := (h.below hb (Nat.le_refl _)).at_str hlt
      have hys := HS.out y (List.mem_of_getElem? hy)
      have EC := Lib.hid (okCh_at (n := m) hy)
      clear hy
      rcases hg : goodChange m y
      · have e0 := Lib.hid (show okFrom m l = false by rw [HG.out, all_bad hlt (by rw [EC.out, hg])])
        go_wp2_with (first | (go_at_call 43; refine (impl_GoodChange hys).mono ?_; rintro e w2 ⟨rfl, hb2⟩))
        go_ret2
        rw [HF.out e0.out, e0.out]
        exact ⟨none, 0, rfl, Owned.nil strE_len _ _ _, by decide, below_go hb hb2⟩
      · have e0 := Lib.hid (show okCh m l k = true by rw [EC.out, hg])
        go_wp2_with (first | (go_at_call 43; refine (impl_GoodChange hys).mono ?_; rintro e w2 ⟨rfl, hb2⟩))
        go_roundw
        case rel => exact ⟨k + 1, by omega, by go_num, Lib.hid (upto_succ HK.out e0.out), below_go hb hb2⟩
        case measure => simp [intOf]; omega
    · obtain rfl : k = l.length := by omega
      have e0 := Lib.hid (show okFrom m l = true by rw [HG.out, all_good (fun j hj => HK.out j hj), h1, h2]; rfl)
      have ER := Lib.hid (fromR_t e0.out)
      obtain ⟨M, hM⟩ : ∃ M, l.length = M + 1 := ⟨l.length - 1, by omega⟩
      have hall : allCh m l = true := by rw [allCh]; exact all_yes (fun j hj => HK.out j hj)
      have hgd : ∀ s ∈ l.take M, isDash s = true ∨ validD s = true := fun s hs => good_valid (allCh_mem hall s (List.mem_of_mem_take hs))
      have hs2 : ∀ s ∈ l.take M, s.size ≤ 16777216 := fun s h => hs s (List.mem_of_mem_take h)
      have hT := (h.below hb (Nat.le_refl _)).take M
      have hTl : (l.take M).length = M := by rw [List.length_take]; omega
      have hpm : ((l.length : Int) - 1) = (M : Int) := by omega
      have hrw := Lib.hid (show rowsL (roundsS m) (l.take M) (M + 1) = rowsL (roundsS m) l l.length by rw [rowsL_take, hM])
      have hwk : IntKind.i64.wrap (M : Int) = (M : Int) := by
        rw [PlainAid.i64_is]; unfold wrap64; omega
      have hMc : M ≤ c := by omega
      have hMi : (M : Int) ≤ (c : Int) := by omega
      obtain ⟨b1, o1, y0, rfl, _, _, _⟩ := h.at_str (k := 0) (by omega)
      clear HK hall hs
      go_wp2
      go_region_held3 (fun u => True) (first | trivial) (first | (go_at_call 58; refine (impl_rounds hm).mono ?_; rintro e w' ⟨rfl, rfl⟩) | (go_at_call 57; refine (impl_rowsUnder hrs hTl hT.drew (by omega) hs2 hgd).mono ?_; rintro e w2 ⟨A2, c2, rfl, ho2, hbd⟩; have hb2 := below_of_drew hbd))
      go_wp2
      go_ret2
      rw [ER.out, e0.out, rowsL_len]
      have ho3 := ho2.base_le (base' := w.heap.size) hb.size
      rw [hrw.out, ← hM] at ho3
      exact ⟨A2, c2, by rw [hM]; rfl, ho3, by omega, below_go hb hb2⟩
end Go.Proofs.Ytnfjneogmddfdaa
