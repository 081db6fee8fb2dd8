/- The walks through the library's growth, concatenation and stable sort, and both sides' merging of strikes. -/
import Derived.Test.YthffeljicohpdaaWsw7
import Derived.Test.YthffeljicohpdaaW21s
import Derived.Lib.AppendZerosOnto
namespace Go.Proofs.Ythffeljicohpdaa
set_option linter.unusedVariables false
set_option linter.unusedSimpArgs false
open Go.ChangeShapes Go.WideShapes Go.ChangeAt Go.RowKit Go.Deep
def mrgOk (a b : List (Int × Int)) : Bool := goodStrikes a && goodStrikes b && decide (a.length + b.length ≤ 2000)
def mrgR (a b : List (Int × Int)) : List (Int × Int) := if mrgOk a b = true then List.merge a b leT else []
theorem mrgR_t {a b : List (Int × Int)} (h : mrgOk a b = true) : mrgR a b = List.merge a b leT := by rw [mrgR, if_pos h]
theorem mrgR_f {a b : List (Int × Int)} (h : mrgOk a b = false) : mrgR a b = [] := by rw [mrgR, if_neg (by rw [h]; simp)]
theorem mrgOk_t {a b : List (Int × Int)} (h : mrgOk a b = true) : goodStrikes a = true ∧ goodStrikes b = true ∧ a.length + b.length ≤ 2000 := by
  simp only [mrgOk, Bool.and_eq_true, decide_eq_true_eq] at h
  exact ⟨h.1.1, h.1.2, h.2⟩
theorem mrgR_len {a b : List (Int × Int)} : (mrgR a b).length ≤ 16777216 := by
  rcases h : mrgOk a b
  · rw [mrgR_f h]; exact Nat.zero_le _
  · rw [mrgR_t h, mgT_len]; have := (mrgOk_t h).2.2; omega
/-- Good strikes lie in order of time, and their times are small. -/
theorem good_srtT {l : List (Int × Int)} (h : goodStrikes l = true) : srtT l ∧ midT l := by
  simp only [goodStrikes, Bool.and_eq_true, decide_eq_true_eq, List.all_eq_true, List.mem_range] at h
  have hk : ∀ i, i < l.length → okStrike l i = true := fun i hi => h.1 i hi
  have hm : midT l := fun s hs => by
    obtain ⟨i, hi⟩ := List.mem_iff_getElem?.1 hs
    have hil := (List.getElem?_eq_some_iff.1 hi).1
    have := hk i hil
    simp only [okStrike, Bool.and_eq_true, List.getD, hi, Option.getD_some, inB, decide_eq_true_eq] at this
    omega
  refine ⟨?_, hm⟩
  have step : ∀ (i : Nat) (x y : Int × Int), l[i]? = some x → l[i + 1]? = some y → x.2 ≤ y.2 := fun i x y hx hy => by
    have := hk (i + 1) (List.getElem?_eq_some_iff.1 hy).1
    simp only [okStrike, Bool.and_eq_true, List.getD, hx, hy, Option.getD_some, inB, decide_eq_true_eq, Nat.add_sub_cancel, Bool.not_eq_true', Bool.and_eq_false_iff, decide_eq_false_iff_not] at this
    omega
  have all : ∀ (k i : Nat) (x y : Int × Int), l[i]? = some x → l[i + k]? = some y → x.2 ≤ y.2 := by
    intro k
    induction k with
    | zero => intro i x y hx hy; rw [Nat.add_zero, hx] at hy; injection hy with hy; rw [hy]; exact Int.le_refl _
    | succ k ih =>
      intro i x y hx hy
      have hl := (List.getElem?_eq_some_iff.1 hy).1
      obtain ⟨z, hz⟩ := some_of_lt (l := l) (k := i + k) (by omega)
      exact Int.le_trans (ih i x z hx hz) (step (i + k) z y hz hy)
  rw [srtT, List.pairwise_iff_getElem]
  intro i j hi hj hij
  exact all (j - i) i _ _ (List.getElem?_eq_getElem hi) (by rw [show i + (j - i) = j by omega]; exact List.getElem?_eq_getElem hj)
set_option maxRecDepth 100000 in
theorem sl_Grow {n : Nat} {w : World} (hn : n ≤ 4000) :
    Calls Try.prog 22 #[.slice none 0 0, .int .i64 n] w fun e w' => ∃ A c, e = .returned (.slice A 0 c) ∧ Owned strikeE 2 34 w' w.heap.size A 0 c [] ∧ Below w.heap.size w w' := by
  have h1 : ¬ ((n : Int) < 0) := by omega
  by_cases h0 : n = 0
  · subst h0
    go_in
    go_wp2
    go_ret
    exact ⟨none, 0, rfl, Owned.nil strikeE_len _ _ _, Below.refl _ _⟩
  · have hp : (n : Int) > 0 := by omega
    obtain ⟨i0, hi, hz0, hz1, hz2⟩ := info_parts Try.elStrike.info
    have hold : (Builtin.firstCells i0.size 0 (.slice none 0 0)).run Try.prog w.drew = .ok (#[] : Array Value) w.drew := run_firstCells_none w.drew i0.size 0 0 0
    have hG : 0 + n ≤ grownCap w (0 + n) 0 34 := grownCap_ge w _ _ _
    have hG2 := grownCap_le_maxLen w (0 + n) 0 34 (by unfold maxLen; omega)
    have hr : ∀ ty, (Builtin.append_ #[24, 3] ty #[.slice none 0 0, .int .i64 (n : Int)]).run Try.prog w = _ := fun ty =>
      Lib.run_append_grow_zeros w 24 3 ty 34 i0 _ .i64 .i64 Try.elStrike.under Try.underlying3 hi hz0 none 0 0 [] hold n (by omega) (by rw [hz1]; decide) (by omega) (by omega) (by rw [hz2]; omega) (growslice_fits (by omega) (by rw [hz2]; omega))
    simp only [Nat.zero_add] at hr hG hG2
    obtain ⟨G, hGe⟩ : ∃ G, G = grownCap w n 0 34 := ⟨_, rfl⟩
    rw [← hGe] at hr hG hG2
    have hG63 : G ≤ 9223372036854775807 := by unfold maxLen at hG2; exact hG2
    have HG2 := Lib.hid hG2
    clear hGe hG2 hold
    go_in
    go_wp2_with (at_builtin; refine Lib.wpList_append_run _ rfl _ _ _ _ rfl _ _ rfl rfl _ _ (hr _) ?_)
    all_goals go_ret
    have hcs : (Builtin.zeroCells #[Value.int IntKind.i64 0, Value.int IntKind.i64 0] n ++ Builtin.zeroCells #[Value.int IntKind.i64 0, Value.int IntKind.i64 0] (G - n)).size = G * 2 := by
      simp only [Array.size_append, size_zeroCells, List.size_toArray, List.length_cons, List.length_nil]
      omega
    refine ⟨some ⟨w.heap.size, 0, none⟩, G, rfl, Owned.drew ⟨strikeE_len, rfl, rfl, .inr ⟨w.heap.size, G, _, rfl, Nat.le_refl _, heap_alloc_new w _, Nat.zero_le _, HG2.out, hcs, rfl⟩⟩, Below.drew (below_alloc (Below.refl _ _) _)⟩
set_option maxHeartbeats 1000000 in
set_option maxRecDepth 100000 in
theorem sl_Concat {A B : Option Addr} {n c m d g : Nat} {l1 l2 : List (Int × Int)} {w : World} (hn : l1.length = n) (h : Recs strikeE 2 w A l1) (hm : l2.length = m) (hr : Recs strikeE 2 w B l2) (hz : n + m ≤ 4000) (hg : g < w.heap.size) (c0 : w.cell? ⟨g, 0, none⟩ = some (.slice A n c)) (c1 : w.cell? ⟨g, 1, none⟩ = some (.slice B m d)) :
    Calls Try.prog 15 #[.slice (some ⟨g, 0, none⟩) 2 2] w fun e w' => ∃ A' c', e = .returned (.slice A' (n + m) c') ∧ Owned strikeE 2 34 w' w.heap.size A' (n + m) c' (l1 ++ l2) ∧ Below w.heap.size w w' := by
  have HN := Lib.hid hn
  have HM := Lib.hid hm
  have HX := Lib.hid h
  have HY := Lib.hid hr
  have hn4 : n ≤ 4000 := by omega
  have hm4 : m ≤ 4000 := by omega
  clear hn hm h hr
  go_in
  go_wp2
  go_loopw [3, 5, 11] (fun v _ u wr => ∃ k s : Nat, v = .int .i64 s ∧ u = .int .i64 k ∧ ((k = 0 ∧ s = 0) ∨ (k = 1 ∧ s = n) ∨ (k = 2 ∧ s = n + m)) ∧ wr = w) (fun _ _ u _ => 2 - (intOf u).toNat)
  case atStart => exact ⟨0, 0, rfl, rfl, .inl ⟨rfl, rfl⟩, rfl⟩
  case round =>
    obtain ⟨k, s, rfl, rfl, hk, hww⟩ := hrel
    rename World => wr
    have hww' := hww.symm
    clear hww
    subst hww'
    rcases hk with ⟨rfl, rfl⟩ | ⟨rfl, rfl⟩ | ⟨rfl, rfl⟩
    · go_wp2
      go_roundw
      case rel => exact ⟨1, n, by go_num, by go_num, .inr (.inl ⟨rfl, rfl⟩), trivial⟩
      case measure => simp [intOf]
    · go_wp2
      go_roundw
      case rel => exact ⟨2, s + m, by go_num, by go_num, .inr (.inr ⟨rfl, rfl⟩), trivial⟩
      case measure => simp [intOf]
    · obtain ⟨q, hq⟩ : ∃ q, q = n + m := ⟨_, rfl⟩
      rw [← hq]
      have HQ := Lib.hid hq
      have hq4 : q ≤ 4000 := by omega
      clear hq
      go_wp2_with (go_at_call 22; refine (sl_Grow (n := q) hq4).mono ?_; rintro e w2 ⟨A2, c2, rfl, ho2, hb2⟩)
      have HO2 := Lib.hid ho2
      clear ho2
      go_loopw [6, 8, 27] (fun v _ u wr => ∃ (k s : Nat) (A' : Option Addr) (c' : Nat) (l' : List (Int × Int)), v = .slice A' s c' ∧ u = .int .i64 k ∧ ((k = 0 ∧ s = 0) ∨ (k = 1 ∧ s = n) ∨ (k = 2 ∧ s = q)) ∧ Hid ((k = 0 ∧ l' = []) ∨ (k = 1 ∧ l' = l1) ∨ (k = 2 ∧ l' = l1 ++ l2)) ∧ Hid (Owned strikeE 2 34 wr w.heap.size A' s c' l') ∧ Below w.heap.size w wr) (fun _ _ u _ => 2 - (intOf u).toNat)
      case atStart => exact ⟨0, 0, A2, c2, [], rfl, rfl, .inl ⟨rfl, rfl⟩, Lib.hid (.inl ⟨rfl, rfl⟩), HO2, hb2⟩
      case round =>
        clear HO2 hb2
        obtain ⟨k, s, A', c', l', rfl, rfl, hk, HL, HO, hb⟩ := hrel
        rename World => wr
        have hsz := hb.size
        have d0 := (hb.cell (p := ⟨g, 0, none⟩) hg).trans c0
        have d1 := (hb.cell (p := ⟨g, 1, none⟩) hg).trans c1
        clear c0 c1
        rcases hk with ⟨rfl, rfl⟩ | ⟨rfl, rfl⟩ | ⟨rfl, rfl⟩
        · have hl : l' = [] := by rcases HL.out with ⟨_, h⟩ | ⟨h, _⟩ | ⟨h, _⟩ <;> first | exact h | omega
          subst hl
          go_wp2_with (at_builtin; go_must ((refine wpList_append_recs Try.elStrike strikeE_one rfl (.tmp 31) (.tmp 32) rfl rfl HO.out rfl (HX.out.below hb (Nat.le_refl _)) HN.out ?_ (by decide) ?_ ?_; (focus (first | omega | (simp only [World.size_alloc]; done) | (simp only [World.size_alloc]; omega) | (simp; done) | (simp; omega))); (focus (first | omega | (simp only [World.size_alloc]; done) | (simp only [World.size_alloc]; omega) | (simp; done) | (simp; omega))); intro A4 c4 w4 ho4 hg4 hl4; have hb4 := hb.trans (grown_base hg4 hsz (fun k hk => (HO.out.blk hk).1)))))
          rw [Nat.zero_add, List.nil_append] at ho4
          have HO4 := Lib.hid ho4
          clear ho4
          go_roundw
          case rel => exact ⟨1, n, A4, c4, l1, by simp, by go_num, .inr (.inl ⟨rfl, rfl⟩), Lib.hid (.inr (.inl ⟨rfl, rfl⟩)), HO4, hb4⟩
          case measure => simp [intOf]
        · have hl : l' = l1 := by rcases HL.out with ⟨h, _⟩ | ⟨_, h⟩ | ⟨h, _⟩ <;> first | exact h | omega
          subst hl
          go_wp2_with (at_builtin; go_must ((refine wpList_append_recs Try.elStrike strikeE_one rfl (.tmp 31) (.tmp 32) rfl rfl HO.out rfl (HY.out.below hb (Nat.le_refl _)) HM.out ?_ (by decide) ?_ ?_; (focus (first | omega | (simp only [World.size_alloc]; done) | (simp only [World.size_alloc]; omega) | (simp; done) | (simp; omega))); (focus (first | omega | (simp only [World.size_alloc]; done) | (simp only [World.size_alloc]; omega) | (simp; done) | (simp; omega))); intro A4 c4 w4 ho4 hg4 hl4; have hb4 := hb.trans (grown_base hg4 hsz (fun k hk => (HO.out.blk hk).1)))))
          rw [← HQ.out] at ho4
          have HO4 := Lib.hid ho4
          have hq2 : s + m = q := HQ.out.symm
          clear ho4
          go_roundw
          case rel => exact ⟨2, q, A4, c4, l' ++ l2, by rw [hq2], by go_num, .inr (.inr ⟨rfl, rfl⟩), Lib.hid (.inr (.inr ⟨rfl, rfl⟩)), HO4, hb4⟩
          case measure => simp [intOf]
        · have hl : l' = l1 ++ l2 := by rcases HL.out with ⟨h, _⟩ | ⟨h, _⟩ | ⟨_, h⟩ <;> first | exact h | omega
          subst hl
          go_wp2
          go_ret
          rw [← HQ.out]
          exact ⟨A', c', rfl, HO.out, hb⟩
set_option maxRecDepth 100000 in
theorem sl_SortStable {A : Option Addr} {n c base : Nat} {L : List (Int × Int)} {w : World} (hO : Owned strikeE 2 34 w base A n c L) (hz : n ≤ 16777216) (hbase : base ≤ w.heap.size) (hT : midT L) :
    Calls Try.prog 16 #[.slice A n c, .func (.func 17) #[] #[]] w fun e w' => e = .returned (.tuple #[]) ∧ Owned strikeE 2 34 w' base A n c (stT L) ∧ Below base w w' := by
  have HO := Lib.hid hO
  have HT := Lib.hid hT
  clear hO hT
  go_in
  go_wp2_with fail
  refine (sl_stable HO.out hz hbase HT.out).mono ?_; rintro e w2 ⟨rfl, ho2, hb2⟩
  go_wp2
  go_end0
  exact ⟨rfl, ho2, hb2⟩
set_option maxHeartbeats 1000000 in
set_option maxRecDepth 100000 in
theorem spec_MergeStrikes {A B : Option Addr} {n m c d : Nat} {l1 l2 : List (Int × Int)} {w : World} (hn : l1.length = n) (h : Recs strikeE 2 w A l1) (hz : n ≤ 16777216) (hm : l2.length = m) (g : Recs strikeE 2 w B l2) (hz2 : m ≤ 16777216) (hnc : n ≤ c) (hmd : m ≤ d) (hc : c ≤ 9223372036854775807) (hd : d ≤ 9223372036854775807) :
    Calls Try.prog 5 #[.slice A n c, .slice B m d] w fun e w' => ∃ A' c', e = .returned (.tuple #[.slice A' (mrgR l1 l2).length c', .bool (mrgOk l1 l2)]) ∧ Owned strikeE 2 34 w' w.heap.size A' (mrgR l1 l2).length c' (mrgR l1 l2) ∧ (mrgR l1 l2).length ≤ 16777216 ∧ Below w.heap.size w w' := by
  have HL := Lib.hid (mrgR_len (a := l1) (b := l2))
  have E : Hid (mrgOk l1 l2 = (goodStrikes l1 && goodStrikes l2 && decide (l1.length + l2.length ≤ 2000))) := rfl
  have HH := Lib.hid h
  have HG := Lib.hid g
  have HN := Lib.hid hn
  have HM := Lib.hid hm
  clear h g hn hm
  rcases h1 : goodStrikes l1
  · have e0 : mrgOk l1 l2 = false := by rw [E.out, h1]; rfl
    rw [mrgR_f e0, e0]
    have H1 := Lib.hid h1
    go_in
    go_wp2_with fail
    refine (spec_l21Good HN.out HH.out hz).mono ?_; rintro e w1 ⟨rfl, hb1⟩
    rw [H1.out]
    go_wp2
    go_ret2
    exact ⟨none, 0, rfl, Owned.nil strikeE_len _ _ _, by decide, hb1⟩
  rcases h2 : goodStrikes l2
  · have e0 : mrgOk l1 l2 = false := by rw [E.out, h1, h2]; rfl
    rw [mrgR_f e0, e0]
    have H1 := Lib.hid h1
    have H2 := Lib.hid h2
    go_in
    go_wp2_with fail
    refine (spec_l21Good HN.out HH.out hz).mono ?_; rintro e w1 ⟨rfl, hb1⟩
    rw [H1.out]
    go_wp2_with fail
    refine (spec_l21Good HM.out (HG.out.below hb1 (Nat.le_refl _)) hz2).mono ?_; rintro e w2 ⟨rfl, hb2⟩
    rw [H2.out]
    go_wp2
    go_ret2
    exact ⟨none, 0, rfl, Owned.nil strikeE_len _ _ _, by decide, below_go hb1 hb2⟩
  by_cases h3 : n + m ≤ 2000
  · have e0 : mrgOk l1 l2 = true := by rw [E.out, h1, h2, HN.out, HM.out, decide_eq_true h3]; rfl
    have e1 : (mrgR l1 l2).length = n + m := by rw [mrgR_t e0, mgT_len, HN.out, HM.out]
    have e2 := mrgR_t e0
    rw [e1, e0, e2]
    have H1 := Lib.hid h1
    have H2 := Lib.hid h2
    have h4 : ¬ ((n : Int) + (m : Int)) > 2000 := by omega
    clear e0 e1 e2 h1 h2
    go_in
    go_wp2_with fail
    refine (spec_l21Good HN.out HH.out hz).mono ?_; rintro e w1 ⟨rfl, hb1⟩
    rw [H1.out]
    go_wp2_with fail
    refine (spec_l21Good HM.out (HG.out.below hb1 (Nat.le_refl _)) hz2).mono ?_; rintro e w2 ⟨rfl, hb2⟩
    rw [H2.out]
    have hb12 := below_go hb1 hb2
    have hsz := hb12.size
    go_wp2_with fail
    refine (spec_l21Merge HN.out (HH.out.below hb12 (Nat.le_refl _)) HM.out (HG.out.below hb12 (Nat.le_refl _)) (by omega) hnc hmd hc hd).mono ?_; rintro e w3 ⟨A3, c3, rfl, ho3, hb3⟩
    go_wp2
    go_ret2
    exact ⟨A3, c3, rfl, ho3.base_le hsz, by omega, below_go hb12 hb3⟩
  · have e0 : mrgOk l1 l2 = false := by rw [E.out, h1, h2, HN.out, HM.out, decide_eq_false h3]; rfl
    rw [mrgR_f e0, e0]
    have H1 := Lib.hid h1
    have H2 := Lib.hid h2
    have h4 : ((n : Int) + (m : Int)) > 2000 := by omega
    clear e0 h1 h2
    go_in
    go_wp2_with fail
    refine (spec_l21Good HN.out HH.out hz).mono ?_; rintro e w1 ⟨rfl, hb1⟩
    rw [H1.out]
    go_wp2_with fail
    refine (spec_l21Good HM.out (HG.out.below hb1 (Nat.le_refl _)) hz2).mono ?_; rintro e w2 ⟨rfl, hb2⟩
    rw [H2.out]
    go_wp2
    go_ret2
    exact ⟨none, 0, rfl, Owned.nil strikeE_len _ _ _, by decide, below_go hb1 hb2⟩
set_option maxHeartbeats 1000000 in
set_option maxRecDepth 100000 in
theorem impl_MergeStrikes {A B : Option Addr} {n m c d : Nat} {l1 l2 : List (Int × Int)} {w : World} (hn : l1.length = n) (h : Recs strikeE 2 w A l1) (hz : n ≤ 16777216) (hm : l2.length = m) (g : Recs strikeE 2 w B l2) (hz2 : m ≤ 16777216) :
    Calls Try.prog 7 #[.slice A n c, .slice B m d] w fun e w' => ∃ A' c', e = .returned (.tuple #[.slice A' (mrgR l1 l2).length c', .bool (mrgOk l1 l2)]) ∧ Owned strikeE 2 34 w' w.heap.size A' (mrgR l1 l2).length c' (mrgR l1 l2) ∧ (mrgR l1 l2).length ≤ 16777216 ∧ Below w.heap.size w w' := by
  have HL := Lib.hid (mrgR_len (a := l1) (b := l2))
  have E : Hid (mrgOk l1 l2 = (goodStrikes l1 && goodStrikes l2 && decide (l1.length + l2.length ≤ 2000))) := rfl
  have HH := Lib.hid h
  have HG := Lib.hid g
  have HN := Lib.hid hn
  have HM := Lib.hid hm
  clear h g hn hm
  rcases h1 : goodStrikes l1
  · have e0 : mrgOk l1 l2 = false := by rw [E.out, h1]; rfl
    rw [mrgR_f e0, e0]
    have H1 := Lib.hid h1
    go_in
    go_wp2_with fail
    refine (impl_GoodStrikes HN.out HH.out hz).mono ?_; rintro e w1 ⟨rfl, hb1⟩
    rw [H1.out]
    go_wp2
    go_ret2
    exact ⟨none, 0, rfl, Owned.nil strikeE_len _ _ _, by decide, hb1⟩
  rcases h2 : goodStrikes l2
  · have e0 : mrgOk l1 l2 = false := by rw [E.out, h1, h2]; rfl
    rw [mrgR_f e0, e0]
    have H1 := Lib.hid h1
    have H2 := Lib.hid h2
    go_in
    go_wp2_with fail
    refine (impl_GoodStrikes HN.out HH.out hz).mono ?_; rintro e w1 ⟨rfl, hb1⟩
    rw [H1.out]
    go_wp2_with fail
    refine (impl_GoodStrikes HM.out (HG.out.below hb1 (Nat.le_refl _)) hz2).mono ?_; rintro e w2 ⟨rfl, hb2⟩
    rw [H2.out]
    go_wp2
    go_ret2
    exact ⟨none, 0, rfl, Owned.nil strikeE_len _ _ _, by decide, below_go hb1 hb2⟩
  by_cases h3 : n + m ≤ 2000
  · have e0 : mrgOk l1 l2 = true := by rw [E.out, h1, h2, HN.out, HM.out, decide_eq_true h3]; rfl
    have e1 : (mrgR l1 l2).length = n + m := by rw [mrgR_t e0, mgT_len, HN.out, HM.out]
    have e2 := mrgR_t e0
    rw [e1, e0, e2]
    have H1 := Lib.hid h1
    have H2 := Lib.hid h2
    have h4 : ¬ ((n : Int) + (m : Int)) > 2000 := by omega
    clear e0 e1 e2 h1 h2
    go_in
    go_wp2_with fail
    refine (impl_GoodStrikes HN.out HH.out hz).mono ?_; rintro e w1 ⟨rfl, hb1⟩
    rw [H1.out]
    go_wp2_with fail
    refine (impl_GoodStrikes HM.out (HG.out.below hb1 (Nat.le_refl _)) hz2).mono ?_; rintro e w2 ⟨rfl, hb2⟩
    rw [H2.out]
    have hb12 := below_go hb1 hb2
    have hsz := hb12.size
    go_wp2_with fail
    have hbA : Below w2.heap.size w2 (w2.alloc (.cells #[.slice A n c, .slice B m d] 24)) := below_alloc (Below.refl _ _) _
    refine (sl_Concat (g := w2.heap.size) (A := A) (B := B) (c := c) (d := d) HN.out ((HH.out.below hb12 (Nat.le_refl _)).up hbA) HM.out ((HG.out.below hb12 (Nat.le_refl _)).up hbA) (by omega) (by simp) ((Blk.at_ w2 _ [_, _] rfl).cell 0) ((Blk.at_ w2 _ [_, _] rfl).cell 1)).mono ?_
    rintro e w3 ⟨A3, c3, rfl, ho3, hb3⟩
    have hbw3 : Below w.heap.size w w3 := below_go (below_go hb12 hbA) hb3
    have hs3 : w.heap.size ≤ w3.heap.size := hbw3.size
    have HO3 : Hid (Owned strikeE 2 34 w3 w.heap.size A3 (n + m) c3 (l1 ++ l2)) := Lib.hid (ho3.base_le (Nat.le_trans hsz hbA.size))
    have HT : Hid (midT (l1 ++ l2)) := Lib.hid (fun s hs => by
      rcases List.mem_append.1 hs with q | q
      · exact (good_srtT H1.out).2 s q
      · exact (good_srtT H2.out).2 s q)
    have HE : Hid (List.merge l1 l2 leT = stT (l1 ++ l2)) := Lib.hid (stT_merge (good_srtT H1.out).1 (good_srtT H2.out).1).symm
    clear hb3 ho3 hbA hb1 hb2 hb12
    obtain ⟨q, hq⟩ : ∃ q, q = n + m := ⟨_, rfl⟩
    rw [← hq] at HO3 ⊢
    have HQ := Lib.hid hq
    have hq2 : q ≤ 2000 := by omega
    clear hq
    go_wp2_with fail
    refine (sl_SortStable HO3.out (by omega) hs3 HT.out).mono ?_
    rintro e w4 ⟨rfl, ho4, hb4⟩
    go_wp2
    go_ret2
    rw [HE.out, ← HQ.out]
    exact ⟨A3, c3, rfl, ho4, by omega, hbw3.trans hb4⟩
  · have e0 : mrgOk l1 l2 = false := by rw [E.out, h1, h2, HN.out, HM.out, decide_eq_false h3]; rfl
    rw [mrgR_f e0, e0]
    have H1 := Lib.hid h1
    have H2 := Lib.hid h2
    have h4 : ((n : Int) + (m : Int)) > 2000 := by omega
    clear e0 h1 h2
    go_in
    go_wp2_with fail
    refine (impl_GoodStrikes HN.out HH.out hz).mono ?_; rintro e w1 ⟨rfl, hb1⟩
    rw [H1.out]
    go_wp2_with fail
    refine (impl_GoodStrikes HM.out (HG.out.below hb1 (Nat.le_refl _)) hz2).mono ?_; rintro e w2 ⟨rfl, hb2⟩
    rw [H2.out]
    go_wp2
    go_ret2
    exact ⟨none, 0, rfl, Owned.nil strikeE_len _ _ _, by decide, below_go hb1 hb2⟩
end Go.Proofs.Ythffeljicohpdaa
