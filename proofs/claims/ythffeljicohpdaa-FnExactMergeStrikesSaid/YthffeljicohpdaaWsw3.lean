/- The walks through the comparison of strikes and the library's sort by insertion. -/
import Derived.Test.YthffeljicohpdaaWsw2
import Derived.Deep.RegionHeld3
namespace Go.Proofs.Ythffeljicohpdaa
set_option linter.unusedVariables false
set_option linter.unusedSimpArgs false
open Go.ChangeShapes Go.WideShapes Go.ChangeAt Go.RowKit Go.Deep
theorem wrap_predT {k : Nat} (h0 : 0 < k) (h1 : k ≤ 16777216) : IntKind.i64.wrap ((k : Int) - 1) = ((k - 1 : Nat) : Int) := by
  rw [PlainAid.i64_is]; unfold wrap64; omega
def midT (l : List (Int × Int)) : Prop := ∀ s ∈ l, -1000000000000 ≤ s.2 ∧ s.2 ≤ 1000000000000
theorem swL_adj {P R : List (Int × Int)} {x y : Int × Int} {j : Nat} (h : P.length + 1 = j) : swL (P ++ (y :: x :: R)) j (j - 1) = P ++ (x :: y :: R) := by
  subst h
  apply List.ext_getElem?
  intro t
  rw [swL_at (by simp) (by simp) (by omega)]
  simp only [List.getElem?_append, Nat.add_sub_cancel]
  by_cases c1 : t < P.length
  · rw [if_neg (by omega), if_neg (by omega), if_pos c1, if_pos c1]
  · by_cases c2 : t = P.length
    · subst c2
      simp
    · by_cases c3 : t = P.length + 1
      · subst c3
        simp
      · rw [if_neg c3, if_neg c2, if_neg c1, if_neg c1]
        obtain ⟨q, hq⟩ : ∃ q, t - P.length = q + 2 := ⟨t - P.length - 2, by omega⟩
        rw [hq]; rfl
set_option maxRecDepth 100000 in
theorem impl_cmp {x y : Int × Int} {w : World} (hx : -1000000000000 ≤ x.2 ∧ x.2 ≤ 1000000000000) (hy : -1000000000000 ≤ y.2 ∧ y.2 ≤ 1000000000000) :
    Calls Try.prog 17 #[.agg #[.int .i64 x.1, .int .i64 x.2], .agg #[.int .i64 y.1, .int .i64 y.2]] w fun e w' => e = .returned (.int .i64 (x.2 - y.2)) ∧ Below w.heap.size w w' := by
  obtain ⟨x1, x2⟩ := x
  obtain ⟨y1, y2⟩ := y
  have hw : IntKind.i64.wrap (x2 - y2) = x2 - y2 := by rw [PlainAid.i64_is]; unfold wrap64; dsimp only at hx hy; omega
  clear hx hy
  go_in
  go_wp2
  go_ret
  exact ⟨rfl, by (repeat' (first | (with_reducible exact Below.refl _ _) | (with_reducible assumption) | (with_reducible refine below_drewN ?_ _) | (with_reducible refine Below.drew ?_) | (with_reducible refine below_alloc ?_ _) | (with_reducible refine Below.alloc ?_ ?_ _) | (with_reducible refine Below.setCell ?_ ?_ _) | (with_reducible refine below_go ?_ (by with_reducible assumption)) | (with_reducible refine below_then (by with_reducible assumption) ?_ ?_) | go_size))⟩
theorem ins_done {X S1 S2 : List (Int × Int)} {m : Nat} {x : Int × Int} (h : stT (X.take m) = S1 ++ S2) (hx : X[m]? = some x) (h1 : ∀ s ∈ S1, s.2 ≤ x.2) (h2 : ∀ s ∈ S2, x.2 < s.2) : stT (X.take (m + 1)) = S1 ++ x :: S2 := by
  rw [take_succ_some hx, stT_snoc, h, mgT_last h1 h2]
theorem ins_le {l S1 S2 : List (Int × Int)} {x y : Int × Int} (h : stT l = (S1 ++ [y]) ++ S2) (hy : y.2 ≤ x.2) : ∀ s ∈ S1 ++ [y], s.2 ≤ x.2 := fun s hs => by
  have h1 := stT_srt l
  rw [h, srtT, List.pairwise_append] at h1
  have h2 := (List.pairwise_append.1 h1.1).2.2
  rcases List.mem_append.1 hs with q | q
  · exact Int.le_trans (h2 s q y (List.mem_singleton.2 rfl)) hy
  · rw [List.mem_singleton.1 q]; exact hy
theorem stT_mem : ∀ {l : List (Int × Int)} {x : Int × Int}, x ∈ stT l → x ∈ l
  | y :: l, x, h => by
    rw [stT, mgT_mem] at h
    rcases h with h | h
    · rw [List.mem_singleton.1 h]; exact List.mem_cons_self ..
    · exact List.mem_cons_of_mem _ (stT_mem h)
set_option maxHeartbeats 2000000 in
set_option maxRecDepth 100000 in
theorem sl_insertion {A : Option Addr} {n c base a b : Nat} {P X Q : List (Int × Int)} {w : World} (hO : Owned strikeE 2 34 w base A n c (P ++ (X ++ Q))) (hz : n ≤ 16777216) (ha : P.length = a) (hb : a + X.length = b) (hbase : base ≤ w.heap.size) (hT : midT X) :
    Calls Try.prog 24 #[.slice A n c, .int .i64 a, .int .i64 b, .func (.func 17) #[] #[]] w fun e w' => e = .returned (.tuple #[]) ∧ Owned strikeE 2 34 w' base A n c (P ++ (stT X ++ Q)) ∧ Below base w w' := by
  have hL := hO.len
  have hbn : b ≤ n := by rw [← hL]; simp; omega
  have HA := Lib.hid ha
  have HB := Lib.hid hb
  have HT := Lib.hid hT
  have hab : a ≤ b := by omega
  have H1 : Hid (stT (X.take 1) = X.take 1) := Lib.hid (by
    rcases X with _ | ⟨x, X⟩
    · rfl
    · exact stT_one x)
  clear hL ha hb hT
  go_in
  go_wp2
  go_loopw [8] (fun v wr => ∃ i : Nat, v = .int .i64 i ∧ a < i ∧ (i ≤ b ∨ i = a + 1) ∧ Hid (Owned strikeE 2 34 wr base A n c (P ++ (stT (X.take (i - a)) ++ (X.drop (i - a) ++ Q)))) ∧ Below base w wr) (fun v _ => b + 1 - (intOf v).toNat)
  case atStart => exact ⟨a + 1, by go_num, by omega, .inr rfl, Lib.hid (by rw [show a + 1 - a = 1 by omega, H1.out, ← List.append_assoc (X.take 1), List.take_append_drop]; exact hO), Below.refl _ _⟩
  case round =>
    obtain ⟨i, rfl, hia, hib, HO, hbw⟩ := hrel
    rename World => wr
    by_cases hlt : i < b
    · have hI : (i : Int) < (b : Int) := by omega
      obtain ⟨x, hx⟩ := some_of_lt (l := X) (k := i - a) (by have := HB.out; omega)
      have HX := Lib.hid hx
      have HS : Hid (X.drop (i - a) = x :: X.drop (i - a + 1)) := Lib.hid (by rw [List.drop_eq_getElem_cons (by have := HB.out; omega)]; congr 1; have := (List.getElem?_eq_some_iff.1 hx).2; exact this)
      clear hx
      go_wp2
      go_loopw [9] (fun v wr => ∃ (j : Nat) (S1 S2 : List (Int × Int)), v = .int .i64 j ∧ a ≤ j ∧ j ≤ i ∧ Hid (a + S1.length = j ∧ stT (X.take (i - a)) = S1 ++ S2 ∧ ∀ s ∈ S2, x.2 < s.2) ∧ Hid (Owned strikeE 2 34 wr base A n c (P ++ (S1 ++ (x :: (S2 ++ (X.drop (i - a + 1) ++ Q)))))) ∧ Below base w wr) (fun v _ => (intOf v).toNat)
      case atStart => exact ⟨i, stT (X.take (i - a)), [], rfl, by omega, Nat.le_refl _, Lib.hid ⟨by rw [stT_len, List.length_take]; have := HB.out; omega, by simp, fun s hs => by cases hs⟩, Lib.hid (by have := HO.out; rw [HS.out] at this; exact this), hbw⟩
      case round =>
        clear HO hbw
        obtain ⟨j, S1, S2, rfl, haj, hji, HR, HO, hbw⟩ := hrel
        rename World => wr
        by_cases hj : a < j
        · have hJ : (a : Int) < (j : Int) := by omega
          obtain ⟨S1', y, hS1⟩ : ∃ t y, S1 = t ++ [y] := by
            rcases List.eq_nil_or_concat S1 with h | ⟨t, y, h⟩
            · have := HR.out.1; rw [h] at this; simp at this; omega
            · exact ⟨t, y, by simpa using h⟩
          subst hS1
          have hj1 : (P ++ S1').length + 1 = j := by have := HR.out.1; have := HA.out; simp at *; omega
          have HJ1 := Lib.hid hj1
          have hjn : j < n := by omega
          have hjn1 : j - 1 < n := by omega
          have hwj := wrap_predT (k := j) (by omega) (by omega)
          have HO : Hid (Owned strikeE 2 34 wr base A n c ((P ++ S1') ++ (y :: x :: (S2 ++ (X.drop (i - a + 1) ++ Q))))) := Lib.hid (by have := HO.out; simpa using this)
          have hxj : ((P ++ S1') ++ (y :: x :: (S2 ++ (X.drop (i - a + 1) ++ Q))))[j]? = some x := by rw [← HJ1.out, List.getElem?_append_right (by omega), Nat.add_sub_cancel_left]; rfl
          have hyj : ((P ++ S1') ++ (y :: x :: (S2 ++ (X.drop (i - a + 1) ++ Q))))[j - 1]? = some y := by rw [← HJ1.out, List.getElem?_append_right (by omega), show (P ++ S1').length + 1 - 1 - (P ++ S1').length = 0 by omega]; rfl
          have hxt := HT.out x (List.mem_of_getElem? HX.out)
          have hyt := HT.out y (List.mem_of_mem_take (stT_mem (l := X.take (i - a)) (by rw [HR.out.2.1]; simp)))
          have HXT := Lib.hid hxt
          have HYT := Lib.hid hyt
          obtain ⟨f, rfl, f0, f1, fc, ff⟩ := HO.out.at_ (by omega)
          have x0 := fc _ x 0 _ hxj rfl
          have x1 := fc _ x 1 _ hxj rfl
          have y0 := fc _ y 0 _ hyj rfl
          have y1 := fc _ y 1 _ hyj rfl
          simp only [Nat.add_zero] at x0 y0
          have HXJ := Lib.hid hxj
          have HYJ := Lib.hid hyj
          have hsw : base ≤ wr.heap.size := Nat.le_trans hbase hbw.size
          clear fc ff hxj hyj hj1 hxt hyt
          go_wp2
          go_region_held3 (fun u => u.cell? ⟨f, j * 2, none⟩ = some (.int .i64 x.1) ∧ u.cell? ⟨f, j * 2 + 1, none⟩ = some (.int .i64 x.2) ∧ u.cell? ⟨f, (j - 1) * 2, none⟩ = some (.int .i64 y.1) ∧ u.cell? ⟨f, (j - 1) * 2 + 1, none⟩ = some (.int .i64 y.2)) (first | exact ⟨by assumption, by assumption, by assumption, by assumption⟩) (first | (refine (impl_cmp (x := x) (y := y) HXT.out HYT.out).mono ?_; rintro e w2 ⟨rfl, hbd⟩; have hb2 := below_of_drew hbd; have x0' := (hb2.cell (p := ⟨f, j * 2, none⟩) f1).trans x0; have x1' := (hb2.cell (p := ⟨f, j * 2 + 1, none⟩) f1).trans x1; have y0' := (hb2.cell (p := ⟨f, (j - 1) * 2, none⟩) f1).trans y0; have y1' := (hb2.cell (p := ⟨f, (j - 1) * 2 + 1, none⟩) f1).trans y1))
          have HO2 := Lib.hid (HO.out.up hb2)
          have hbw2 : Below base w w2 := hbw.trans (hb2.mono hsw)
          have hf2 : f < w2.heap.size := Nat.lt_of_lt_of_le f1 hb2.size
          by_cases hxy : x.2 - y.2 < 0
          · obtain ⟨g, e, _, _, _, ff⟩ := HO2.out.at_ (by omega)
            injection e with e
            injection e with e
            subst e
            have g0 := ff (j * 2)
            have g1 := ff (j * 2 + 1)
            have g2 := ff ((j - 1) * 2)
            have g3 := ff ((j - 1) * 2 + 1)
            have n1 : ¬ j * 2 = (j - 1) * 2 := by omega
            have n2 : ¬ (j - 1) * 2 = j * 2 := by omega
            have hcd : decide (x.2 - y.2 < 0) = true := decide_eq_true hxy
            have HSW := own_sw HO2.out f0 hf2 HXJ.out HYJ.out (by omega)
            rw [swL_adj HJ1.out] at HSW
            have HSO : Hid (Owned strikeE 2 34 _ base _ n c (P ++ (S1' ++ (x :: ((y :: S2) ++ (X.drop (i - a + 1) ++ Q)))))) := Lib.hid (by have := HSW.1.drew; simpa using this)
            have HSB := Lib.hid (hbw2.trans HSW.2).drew
            have HR5 : Hid (a + S1'.length = j - 1 ∧ stT (X.take (i - a)) = S1' ++ (y :: S2) ∧ ∀ s ∈ y :: S2, x.2 < s.2) := Lib.hid ⟨by have := HR.out.1; simp at this; omega, by rw [HR.out.2.1]; simp, fun s hs => by
              rcases List.mem_cons.1 hs with q | q
              · rw [q]; omega
              · exact HR.out.2.2 s q⟩
            clear ff HSW hbd hb2 x0 x1 y0 y1 hbw hbw2
            go_wp2
            go_region
            go_wp2
            go_roundw
            case rel => exact ⟨j - 1, S1', y :: S2, by go_num, by omega, by omega, HR5, HSO, HSB.out⟩
            case measure => simp [intOf]; omega
          · have hcd : decide (x.2 - y.2 < 0) = false := decide_eq_false hxy
            have HD := Lib.hid (ins_done HR.out.2.1 HX.out (ins_le HR.out.2.1 (by omega)) HR.out.2.2)
            have HO5 : Hid (Owned strikeE 2 34 w2 base (some ⟨f, 0, none⟩) n c (P ++ (stT (X.take (i + 1 - a)) ++ (X.drop (i + 1 - a) ++ Q)))) := Lib.hid (by rw [show i + 1 - a = i - a + 1 by omega, HD.out]; have := HO2.out; simpa using this)
            clear hbd hb2 x0 x1 y0 y1 x0' x1' y0' y1'
            go_wp2
            go_roundw
            case rel => exact ⟨i + 1, by go_num, by omega, by omega, HO5, hbw2⟩
            case measure => simp [intOf]; omega
        · have hJ : ¬ (a : Int) < (j : Int) := by omega
          obtain rfl : a = j := by omega
          have hS : S1 = [] := List.eq_nil_of_length_eq_zero (by have := HR.out.1; omega)
          subst hS
          have HD := Lib.hid (ins_done HR.out.2.1 HX.out (fun s hs => by cases hs) HR.out.2.2)
          have HO5 : Hid (Owned strikeE 2 34 wr base A n c (P ++ (stT (X.take (i + 1 - a)) ++ (X.drop (i + 1 - a) ++ Q)))) := Lib.hid (by rw [show i + 1 - a = i - a + 1 by omega, HD.out]; have := HO.out; simpa using this)
          go_wp2
          go_quiet (fail)
          go_wp2
          go_roundw
          case rel => exact ⟨i + 1, by go_num, by omega, by omega, Lib.hid (HO5.out.drewN _), below_drewN hbw _⟩
          case measure => simp [intOf]; omega
    · have hI : ¬ (i : Int) < (b : Int) := by omega
      have HF : Hid (Owned strikeE 2 34 wr base A n c (P ++ (stT X ++ Q))) := Lib.hid (by
        have := HO.out
        rw [List.take_of_length_le (by have := HB.out; omega), List.drop_of_length_le (by have := HB.out; omega)] at this
        exact this)
      go_wp2
      go_end0
      exact ⟨rfl, HF.out, hbw⟩
end Go.Proofs.Ythffeljicohpdaa
