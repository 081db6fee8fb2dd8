/- Texts 2 of 7 that the claim leans on: plain laws and the walks' contracts, in order. -/
import Derived.Test.YtpccbmndgdiloaaMEvens1
import Derived.Shelf.Sort.Plain
import Derived.Test.YtpccbmndgdiloaaProg
import Derived.Sort.OwnSorted
import Derived.Maps.OwnSet
import Derived.Maps.Views
import Derived.WideKeyPair
import Derived.DeepKeys4
import Derived.Test.YtpccbmndgdiloaaRows
import Derived.PlainAid
import Derived.Deep.AppendLies
import Derived.StillTailTactics
import Derived.Maps.AppendAt
/- Signs: a change turns the sign of a row as often as it swaps; the sign of a product. -/
namespace Go.Proofs.Ytpccbmndgdiloaa
set_option linter.unusedVariables false
set_option linter.unusedSimpArgs false
open Go.ChangeShapes Go.WideShapes Go.ChangeAt Go.RowKit Go.Deep
def invs : List Int → Nat
  | [] => 0
  | x :: r => cnt x r + invs r
def gt (y : Int) (l : List Int) : Nat := l.countP fun z => decide (y < z)
theorem gt_cons (y z : Int) (l : List Int) : gt y (z :: l) = gt y l + (if y < z then 1 else 0) := by
  rw [gt, List.countP_cons, gt]
  by_cases h : y < z <;> simp [h]
theorem cnt_snoc (x y : Int) (l : List Int) : cnt x (l ++ [y]) = cnt x l + (if y < x then 1 else 0) := by
  rw [cnt, List.countP_append, cnt]
  by_cases h : y < x <;> simp [h]
theorem invs_snoc (y : Int) : ∀ l : List Int, invs (l ++ [y]) = invs l + gt y l
  | [] => by simp [invs, gt, cnt]
  | x :: r => by
    rw [List.cons_append, invs, invs_snoc y r, cnt_snoc, invs, gt_cons]
    omega
theorem drop_someZ {α : Type} {l : List α} {k : Nat} {x : α} (h : l[k]? = some x) : l.drop k = x :: l.drop (k + 1) := by
  rw [List.drop_eq_getElem_cons (List.getElem?_eq_some_iff.1 h).1, (List.getElem?_eq_some_iff.1 h).2]
def evB (n : Nat) : Bool := decide (n % 2 = 0)
theorem evB_succ (n : Nat) : evB (n + 1) = !evB n := by
  simp only [evB]
  by_cases h : n % 2 = 0
  · rw [decide_eq_true h, decide_eq_false (by omega)]; rfl
  · rw [decide_eq_false h, decide_eq_true (by omega)]; rfl
theorem tg_gt (s : ByteArray) (i : Nat) (c : Nat) : ∀ k, k ≤ s.size → tg s i k (evB c) = evB (c + gt (PlainAid.bt s i) ((nums s).take k))
  | 0, _ => by simp [tg, gt]
  | k + 1, h => by
    have ih := tg_gt s i c k (by omega)
    have e : (nums s).take (k + 1) = (nums s).take k ++ [PlainAid.bt s k] := take_succ_some (nums_at (by omega))
    have e2 : gt (PlainAid.bt s i) ((nums s).take k ++ [PlainAid.bt s k]) = gt (PlainAid.bt s i) ((nums s).take k) + (if PlainAid.bt s i < PlainAid.bt s k then 1 else 0) := by
      rw [gt, List.countP_append, gt]
      by_cases h : PlainAid.bt s i < PlainAid.bt s k <;> simp [h]
    rw [e, e2]
    by_cases hlt : PlainAid.bt s i < PlainAid.bt s k
    · rw [tg_yes hlt, ih, if_pos hlt, ← Nat.add_assoc, evB_succ]
    · rw [tg_no hlt, ih, if_neg hlt, Nat.add_zero]
theorem evo_invs (s : ByteArray) : ∀ k, k ≤ s.size → evo s k = evB (invs ((nums s).take k))
  | 0, _ => by simp [evo, invs, evB]
  | k + 1, h => by
    have e : (nums s).take (k + 1) = (nums s).take k ++ [PlainAid.bt s k] := take_succ_some (nums_at (by omega))
    rw [evo, evo_invs s k (by omega), tg_gt s k _ k (by omega), e, invs_snoc]
theorem even_invs (s : ByteArray) : evenRow s = evB (invs (nums s)) := by
  rw [evenRow, evo_invs s _ (Nat.le_refl _), List.take_of_length_le (by rw [nums_len]; exact Nat.le_refl _)]
theorem cnt_swap (z x y : Int) (q : List Int) : cnt z (x :: y :: q) = cnt z (y :: x :: q) := by
  rw [cnt_cons, cnt_cons, cnt_cons, cnt_cons]; omega
theorem invs_swap {x y : Int} (h : x ≠ y) (q : List Int) : ∀ p : List Int, evB (invs (p ++ x :: y :: q)) = !evB (invs (p ++ y :: x :: q))
  | [] => by
    simp only [List.nil_append, invs, cnt_cons]
    rcases Int.lt_or_lt_of_ne h with h1 | h1
    · rw [if_neg (by omega), if_pos h1]
      rw [show cnt x q + 0 + (cnt y q + invs q) = cnt x q + cnt y q + invs q by omega, show cnt y q + 1 + (cnt x q + invs q) = (cnt x q + cnt y q + invs q) + 1 by omega, evB_succ, Bool.not_not]
    · rw [if_pos h1, if_neg (by omega)]
      rw [show cnt x q + 1 + (cnt y q + invs q) = (cnt x q + cnt y q + invs q) + 1 by omega, show cnt y q + 0 + (cnt x q + invs q) = cnt x q + cnt y q + invs q by omega, evB_succ]
  | z :: p => by
    have ih := invs_swap h q p
    have hc : cnt z (p ++ x :: y :: q) = cnt z (p ++ y :: x :: q) := by
      rw [cnt, cnt, List.countP_append, List.countP_append]
      congr 1
      exact cnt_swap z x y q
    have key : ∀ a b c : Nat, evB a = !evB b → evB (c + a) = !evB (c + b) := fun a b c e => by
      induction c with
      | zero => simpa using e
      | succ c ih => rw [Nat.add_right_comm, Nat.add_right_comm c 1 b, evB_succ, evB_succ, ih]
    rw [List.cons_append, List.cons_append, invs, invs, hc]
    exact key _ _ _ ih
theorem invs_set {l : List Int} {p : Nat} {x y : Int} (hx : l[p]? = some x) (hy : l[p + 1]? = some y) (h : x ≠ y) : evB (invs ((l.set p y).set (p + 1) x)) = !evB (invs l) := by
  have hp := (List.getElem?_eq_some_iff.1 hy).1
  have e1 : l = l.take p ++ x :: y :: l.drop (p + 2) := by
    conv => lhs; rw [← List.take_append_drop p l]
    congr 1
    rw [drop_someZ hx, drop_someZ hy]
  have e2 : (l.set p y).set (p + 1) x = l.take p ++ y :: x :: l.drop (p + 2) := by
    have ht : (l.take p).length = p := by rw [List.length_take]; omega
    conv => lhs; rw [e1]
    rw [List.set_append_right _ _ (by omega), ht, Nat.sub_self, List.set_cons_zero, List.set_append_right _ _ (by omega), ht, Nat.add_sub_cancel_left, List.set_cons_succ, List.set_cons_zero]
  rw [e2, invs_swap (fun e => h e.symm)]
  conv => rhs; rw [e1]
/-- How often the first k swaps turn. -/
theorem rowV_take {n : Nat} {sw : List Int} (hin : ∀ x ∈ sw, ((1 : Nat) : Int) ≤ x ∧ x < n) (hfar : sw.Pairwise fun x y => x + 2 ≤ y) {a : ByteArray} (ha : isRowL (nums a)) (hn : a.size = n) :
    ∀ k, k ≤ sw.length → evB (invs ((rowV n (sw.take k)).map fun z => PlainAid.bt a (z - 49).toNat)) = (evB (invs (nums a)) == evB k)
  | 0, _ => by
    have e : ((rowV n []).map fun z => PlainAid.bt a (z - 49).toNat) = nums a := by
      apply List.ext_getElem (by rw [List.length_map, rowV_len, nums_len, hn])
      intro i h1 h2
      simp only [rowV, List.getElem_map, List.getElem_range, nums]
      congr 1
      simp [cval]
      omega
    rw [List.take_zero, e]
    rcases evB (invs (nums a)) <;> rfl
  | k + 1, h => by
    have ih := rowV_take hin hfar ha hn k (by omega)
    have hy : sw[k]? = some sw[k] := List.getElem?_eq_getElem (by omega)
    have hyin := hin _ (List.mem_of_getElem? hy)
    obtain ⟨q, hq⟩ : ∃ q : Nat, sw[k] = (q : Int) + 1 := ⟨(sw[k] - 1).toNat, by omega⟩
    have hqn : q + 1 < n := by omega
    have hfr : ∀ x ∈ sw.take k, x + 2 ≤ ((q + 1 : Nat) : Int) := fun x hx => by have := take_far hfar hy x hx; omega
    have hpl := rowV_plain hqn hfr
    have ht : sw.take (k + 1) = sw.take k ++ [((q + 1 : Nat) : Int)] := by rw [take_succ_some hy, hq]; rfl
    rw [ht, rowV_step (p := q + 1) (by omega) hqn hfr, Nat.add_sub_cancel, List.map_set, List.map_set]
    have b1 : PlainAid.bt a ((49 + ((q + 1 : Nat) : Int)) - 49).toNat = PlainAid.bt a (q + 1) := by congr 1; omega
    have b2 : PlainAid.bt a ((48 + ((q + 1 : Nat) : Int)) - 49).toNat = PlainAid.bt a q := by congr 1; omega
    have b3 : PlainAid.bt a ((49 + (q : Int)) - 49).toNat = PlainAid.bt a q := by congr 1; omega
    have b4 : PlainAid.bt a ((49 + ((q : Int) + 1)) - 49).toNat = PlainAid.bt a (q + 1) := by congr 1; omega
    rw [b1, b2]
    have m1 : ((rowV n (sw.take k)).map fun z => PlainAid.bt a (z - 49).toNat)[q]? = some (PlainAid.bt a q) := by
      rw [List.getElem?_map, hpl.1]
      show some (PlainAid.bt a ((49 + (q : Int)) - 49).toNat) = _
      rw [b3]
    have m2 : ((rowV n (sw.take k)).map fun z => PlainAid.bt a (z - 49).toNat)[q + 1]? = some (PlainAid.bt a (q + 1)) := by
      rw [List.getElem?_map, hpl.2]
      show some (PlainAid.bt a ((49 + ((q : Int) + 1)) - 49).toNat) = _
      rw [b4]
    have hne : PlainAid.bt a q ≠ PlainAid.bt a (q + 1) := by
      have hp := ha.1
      rw [List.nodup_iff_pairwise_ne, List.pairwise_iff_getElem] at hp
      have := hp q (q + 1) (by rw [nums_len]; omega) (by rw [nums_len]; omega) (by omega)
      have h1 := nums_at (s := a) (k := q) (by omega); have h2 := nums_at (s := a) (k := q + 1) (by omega)
      rw [List.getElem?_eq_getElem (by rw [nums_len]; omega)] at h1 h2
      injection h1 with h1; injection h2 with h2
      rw [← h1, ← h2]; exact this
    rw [invs_set m1 m2 hne, ih, evB_succ]
    rcases evB (invs (nums a)) <;> rcases evB k <;> rfl
theorem sign_apply {a : ByteArray} (h : goodRow a = true) (c : ByteArray) : evenRow (applyR a c) = (evenRow a == evenSwaps a.size c) := by
  have hn := goodRow_n h
  have hr := goodRow_list h
  have h2 := rowL_times hr (by rw [chRow, nums_strOf (rowL_bytes (rowL_ch a.size c) (by rw [rowV_len]; omega))]; exact rowL_ch a.size c) (chRow_size a.size c).symm
  have e1 : nums (applyR a c) = (rowV a.size (swaps a.size c)).map fun z => PlainAid.bt a (z - 49).toNat := by
    rw [applyR, timesS, nums_strOf (rowL_bytes h2 (by rw [timesL_len, chRow_size]; omega)), timesL, chRow, nums_strOf (rowL_bytes (rowL_ch a.size c) (by rw [rowV_len]; omega))]
  have e2 := rowV_take (sws_in (stays c) a.size 1) (sws_far (stays c) a.size 1) hr rfl (swaps a.size c).length (Nat.le_refl _)
  rw [show sws (stays c) a.size 1 = swaps a.size c from rfl, List.take_of_length_le (Nat.le_refl _)] at e2
  rw [even_invs, e1, e2, even_invs]
  rfl
/-! products -/
theorem nums_times {a b : ByteArray} (h : goodRow a = true) (g : goodRow b = true) (e : a.size = b.size) : nums (timesS a b) = timesL a b := by
  have hn := goodRow_n h
  rw [timesS, nums_strOf (rowL_bytes (rowL_times (goodRow_list h) (goodRow_list g) e) (by rw [timesL_len]; omega))]
theorem times_assoc {a b c : ByteArray} (ha : goodRow a = true) (hb : goodRow b = true) (hc : goodRow c = true) (e1 : a.size = b.size) (e2 : b.size = c.size) : timesS a (timesS b c) = timesS (timesS a b) c := by
  suffices h : timesL a (timesS b c) = timesL (timesS a b) c by
    show strOfNums (timesL a (timesS b c)) = strOfNums (timesL (timesS a b) c)
    rw [h]
  show (nums (timesS b c)).map _ = (nums c).map _
  rw [nums_times hb hc e2, timesL, List.map_map]
  apply List.map_congr_left
  intro z hz
  have hz2 := (goodRow_list hc).2 z hz
  rw [nums_len] at hz2
  have hk : (z - 49).toNat < b.size := by omega
  have h1 := timesL_at (a := a) hk
  rw [← nums_times ha hb e1, nums_at (by rw [timesS, strOfNums_size, timesL_len]; exact hk)] at h1
  injection h1 with h1
  rw [h1]; rfl
theorem times_rounds {a : ByteArray} (h : goodRow a = true) : timesS a (roundsS a.size) = a := by
  have hn := goodRow_n h
  apply nums_inj
  rw [nums_times h (good_rounds _ (by omega) (by omega)) (rounds_size _ (by omega)).symm, timesL, rowV_nil _ (by omega)]
  apply List.ext_getElem (by rw [List.length_map, rowV_len, nums_len])
  intro i h1 h2
  simp only [rowV, List.getElem_map, List.getElem_range, nums]
  congr 1
  simp [cval]
  omega
theorem times_apply {a b : ByteArray} (ha : goodRow a = true) (hb : goodRow b = true) (e : a.size = b.size) (c : ByteArray) : timesS a (applyR b c) = applyR (timesS a b) c := by
  have hs : (timesS a b).size = b.size := by rw [timesS, strOfNums_size, timesL_len]
  rw [applyR, applyR, hs, times_assoc ha hb (good_ch (goodRow_n hb) c) e (chRow_size _ _).symm]
theorem sign_times_rAt {a : ByteArray} (ha : goodRow a = true) (l : List ByteArray) : ∀ k, evenRow (timesS a (rAt (roundsS a.size) l k)) = (evenRow a == evenRow (rAt (roundsS a.size) l k))
  | 0 => by
    rw [rAt, times_rounds ha]
    have : ∀ n, n < 9 → evenRow (roundsS n) = true := of_decide_eq_true (by kernel_rfl)
    rw [this _ (by have := goodRow_n ha; omega)]
    rcases evenRow a <;> rfl
  | k + 1 => by
    have hn := goodRow_n ha
    have hg := good_rAt (good_rounds a.size (by omega) (by omega)) l k
    have hs : (rAt (roundsS a.size) l k).size = a.size := by rw [rAt_size, rounds_size _ (by omega)]
    have ht : (timesS a (rAt (roundsS a.size) l k)).size = a.size := by rw [timesS, strOfNums_size, timesL_len, hs]
    rw [rAt, times_apply ha hg hs.symm, sign_apply (good_times ha hg hs.symm), sign_apply hg, sign_times_rAt ha l k, ht, hs]
    rcases evenRow a <;> rcases evenRow (rAt (roundsS a.size) l k) <;> rcases evenSwaps a.size _ <;> rfl
theorem sign_times_head {a : ByteArray} (ha : goodRow a = true) {l : List ByteArray} (x : ByteArray) (h : 0 < l.length) : evenRow (timesS a (headX a.size l x)) = (evenRow a == evenRow (headX a.size l x)) := by
  have := sign_times_rAt ha (l.set (l.length - 1) x) l.length
  rwa [headX_set h] at this
end Go.Proofs.Ytpccbmndgdiloaa
/- Chapter 17 as plain functions: the inverse of a row, the powers of a row, Q-sets. -/
namespace Go.Proofs.Ytpccbmndgdiloaa
set_option linter.unusedVariables false
set_option linter.unusedSimpArgs false
open Go.ChangeShapes Go.WideShapes Go.ChangeAt Go.RowKit Go.Deep
theorem nodup_of {α : Type} {l : List α} (h : ∀ i j, i < j → j < l.length → l[i]? ≠ l[j]?) : l.Nodup :=
  List.pairwise_iff_getElem.2 fun i j hi hj hij e => h i j hij hj (by rw [List.getElem?_eq_getElem hi, List.getElem?_eq_getElem hj, e])
/-- m is the inverse of a, written in bytes. -/
def TurnOf (a : ByteArray) (m : List Int) : Prop := m.length = a.size ∧ ∀ i, i < a.size → m[(PlainAid.bt a i - 49).toNat]? = some (49 + (i : Int))
theorem row_at {a : ByteArray} (h : goodRow a = true) {i : Nat} (hi : i < a.size) : 49 ≤ PlainAid.bt a i ∧ PlainAid.bt a i ≤ 48 + (a.size : Int) := by
  have := (goodRow_list h).2 _ (List.mem_of_getElem? (nums_at hi))
  rwa [nums_len] at this
theorem row_inj {a : ByteArray} (h : goodRow a = true) {i j : Nat} (hi : i < a.size) (hj : j < a.size) (e : PlainAid.bt a i = PlainAid.bt a j) : i = j := by
  have hn := (goodRow_list h).1
  have h1 := nums_at hi
  have h2 := nums_at hj
  rw [e] at h1
  exact (List.getElem?_inj (by rw [nums_len]; exact hi) hn).1 (h1.trans h2.symm)
theorem row_hit {a : ByteArray} (h : goodRow a = true) {j : Nat} (hj : j < a.size) : ∃ i, i < a.size ∧ PlainAid.bt a i = 49 + (j : Int) := by
  have hm : (49 + (j : Int)) ∈ nums a := (isRowL_mem (goodRow_list h)).2 (by rw [nums_len]; omega)
  obtain ⟨i, hi⟩ := List.getElem?_of_mem hm
  have hl := (List.getElem?_eq_some_iff.1 hi).1
  rw [nums_len] at hl
  rw [nums_at hl] at hi
  injection hi with hi
  exact ⟨i, hl, hi⟩
theorem TurnOf.uniq {a : ByteArray} {m l : List Int} (h : goodRow a = true) (hm : TurnOf a m) (hl : TurnOf a l) : m = l := by
  refine eq_of_upto (k := a.size) (fun j hj => ?_) hm.1 hl.1
  obtain ⟨i, hi, e⟩ := row_hit h hj
  have h1 := hm.2 i hi
  have h2 := hl.2 i hi
  rw [e, show ((49 : Int) + (j : Int) - 49).toNat = j by omega] at h1 h2
  rw [h1, h2]
/-- The inverse of a row. -/
noncomputable def turnS (a : ByteArray) : ByteArray := by
  classical exact if h : ∃ m, TurnOf a m then strOfNums h.choose else ByteArray.empty
theorem turn_eq {a : ByteArray} {m : List Int} (h : goodRow a = true) (hm : TurnOf a m) : turnS a = strOfNums m := by
  have he : ∃ m, TurnOf a m := ⟨m, hm⟩
  rw [turnS, dif_pos he, TurnOf.uniq h he.choose_spec hm]
theorem turn_row {a : ByteArray} {m : List Int} (h : goodRow a = true) (hm : TurnOf a m) : RowN a.size (turnS a) := by
  have hn := goodRow_n h
  have hv : ∀ j, j < a.size → ∃ i, i < a.size ∧ PlainAid.bt a i = 49 + (j : Int) ∧ m[j]? = some (49 + (i : Int)) := fun j hj => by
    obtain ⟨i, hi, e⟩ := row_hit h hj
    have h1 := hm.2 i hi
    rw [e, show ((49 : Int) + (j : Int) - 49).toNat = j by omega] at h1
    exact ⟨i, hi, e, h1⟩
  have hr : isRowL m := by
    constructor
    · refine nodup_of ?_
      intro i j hij hj hc
      rw [hm.1] at hj
      obtain ⟨p, _, ep, e1⟩ := hv i (by omega)
      obtain ⟨q, _, eq, e2⟩ := hv j hj
      rw [e1, e2] at hc
      injection hc with hc
      have : p = q := by omega
      subst this
      omega
    · intro z hz
      obtain ⟨j, hj⟩ := List.getElem?_of_mem hz
      have hl := (List.getElem?_eq_some_iff.1 hj).1
      rw [hm.1] at hl
      obtain ⟨p, hp, _, e1⟩ := hv j hl
      rw [e1] at hj
      injection hj with hj
      rw [hm.1]; omega
  have hb := rowL_bytes hr (by rw [hm.1]; omega)
  have hs : (strOfNums m).size = a.size := by rw [strOfNums_size, hm.1]
  rw [turn_eq h hm]
  exact ⟨goodRow_of (by rw [hs]; omega) (by rw [nums_strOf hb]; exact hr), hs⟩
/-! products -/
theorem times_at {a b : ByteArray} {n k : Nat} (ha : RowN n a) (hb : RowN n b) (hk : k < n) : PlainAid.bt (timesS a b) k = PlainAid.bt a (PlainAid.bt b k - 49).toNat := by
  have h1 := timesL_at (a := a) (b := b) (k := k) (by rw [hb.2]; exact hk)
  rw [← nums_times ha.1 hb.1 (by rw [ha.2, hb.2]), nums_at (by rw [(ha.times hb).2]; exact hk)] at h1
  injection h1
theorem row_ext {a b : ByteArray} (e : a.size = b.size) (h : ∀ k, k < a.size → PlainAid.bt a k = PlainAid.bt b k) : a = b := by
  refine nums_inj (eq_of_upto (k := a.size) (fun j hj => ?_) (nums_len a) (by rw [nums_len, e]))
  rw [nums_at hj, nums_at (by rw [← e]; exact hj), h j hj]
theorem times_cancel {x y q : ByteArray} {n : Nat} (hx : RowN n x) (hy : RowN n y) (hq : RowN n q) (e : timesS x q = timesS y q) : x = y := by
  refine row_ext (by rw [hx.2, hy.2]) fun k hk => ?_
  rw [hx.2, ← hq.2] at hk
  obtain ⟨i, hi, e1⟩ := row_hit hq.1 hk
  rw [hq.2] at hi
  have h1 := times_at hx hq hi
  have h2 := times_at hy hq hi
  rw [e1, show ((49 : Int) + (k : Int) - 49).toNat = k by omega] at h1 h2
  rw [← h1, ← h2, e]
theorem rounds_bt {n k : Nat} (h8 : n < 9) (hk : k < n) : PlainAid.bt (roundsS n) k = 49 + (k : Int) := by
  have h1 := nums_at (s := roundsS n) (k := k) (by rw [rounds_size _ h8]; exact hk)
  rw [rowV_nil _ h8] at h1
  have h2 : (rowV n [])[k]? = some (49 + (k : Int)) := by
    rw [rowV, List.getElem?_map, List.getElem?_range hk]
    simp [cval]
    try omega
  rw [h2] at h1
  injection h1 with h1
  exact h1.symm
theorem rounds_times {q : ByteArray} {n : Nat} (hq : RowN n q) : timesS (roundsS n) q = q := by
  have hs := hq.st
  have hr := rowN_rounds hs.1 hs.2
  refine row_ext (by rw [(hr.times hq).2, hq.2]) fun k hk => ?_
  rw [(hr.times hq).2] at hk
  have h1 := row_at hq.1 (i := k) (by rw [hq.2]; exact hk)
  rw [hq.2] at h1
  rw [times_at hr hq hk, rounds_bt (by omega) (by omega)]
  omega
/-- The powers of a row. -/
def pwS (n : Nat) (q : ByteArray) : Nat → ByteArray
  | 0 => roundsS n
  | k + 1 => timesS (pwS n q k) q
theorem pw_row {n : Nat} {q : ByteArray} (hq : RowN n q) : ∀ k, RowN n (pwS n q k)
  | 0 => rowN_rounds hq.st.1 hq.st.2
  | k + 1 => (pw_row hq k).times hq
theorem pw_one {n : Nat} {q : ByteArray} (hq : RowN n q) : pwS n q 1 = q := rounds_times hq
theorem pw_eq {n : Nat} {q : ByteArray} (hq : RowN n q) : ∀ i d, pwS n q i = pwS n q (i + d) → pwS n q d = roundsS n
  | 0, d, h => by rw [Nat.zero_add] at h; exact h.symm
  | i + 1, d, h => by
    rw [Nat.add_right_comm] at h
    exact pw_eq hq i d (times_cancel (pw_row hq i) (pw_row hq (i + d)) hq h)
def pwL (n : Nat) (q : ByteArray) (m : Nat) : List ByteArray := (List.range m).map (pwS n q)
theorem pwL_len (n : Nat) (q : ByteArray) (m : Nat) : (pwL n q m).length = m := by simp [pwL]
theorem pwL_succ (n : Nat) (q : ByteArray) (m : Nat) : pwL n q (m + 1) = pwL n q m ++ [pwS n q m] := by rw [pwL, List.range_succ, List.map_append]; rfl
theorem pwL_le {n m : Nat} {q : ByteArray} (hq : RowN n q) (h : ∀ k, 1 ≤ k → k < m → pwS n q k ≠ roundsS n) : m ≤ fact n := by
  have h1 : (pwL n q m).Nodup := by
    rw [pwL]; refine nodup_of ?_
    intro i j hij hj hc
    rw [List.length_map, List.length_range] at hj
    rw [List.getElem?_map, List.getElem?_map, List.getElem?_range (by omega), List.getElem?_range hj] at hc
    injection hc with hc
    refine h (j - i) (by omega) (by omega) (pw_eq hq i (j - i) ?_)
    rw [hc, show i + (j - i) = j by omega]
  have h2 := rows_le h1 (n := n) (fun s hs => by
    rw [pwL, List.mem_map] at hs
    obtain ⟨k, _, rfl⟩ := hs
    exact pw_row hq k)
  rwa [pwL_len] at h2
/-- A row of rows that has with each of its rows the next one by q. -/
def closedB (q : ByteArray) (B : List ByteArray) : Bool := B.all fun h => inL B (timesS h q)
theorem closed_pw {n : Nat} {q : ByteArray} {B : List ByteArray} (hq : RowN n q) (hB : ∀ h ∈ B, RowN n h) (hc : closedB q B = true) {h : ByteArray} (hh : h ∈ B) : ∀ k, timesS h (pwS n q k) ∈ B
  | 0 => by
    have h1 := times_rounds (hB h hh).1
    rw [(hB h hh).2] at h1
    rw [pwS, h1]; exact hh
  | k + 1 => by
    have ih := closed_pw hq hB hc hh k
    have hp := pw_row hq k
    rw [pwS, times_assoc (hB h hh).1 hp.1 hq.1 (by rw [(hB h hh).2, hp.2]) (by rw [hp.2, hq.2])]
    exact inL_iff.1 (List.all_eq_true.1 hc _ ih)
theorem closed_of {n m : Nat} {q : ByteArray} {B : List ByteArray} (hq : RowN n q) (hB : ∀ h ∈ B, RowN n h) (hm : 1 ≤ m) (hr : pwS n q m = roundsS n) (h : ∀ x ∈ B, ∀ k, k < m → timesS x (pwS n q k) ∈ B) : closedB q B = true := by
  rw [closedB, List.all_eq_true]
  intro x hx
  rw [inL_iff]
  by_cases h1 : 1 < m
  · have := h x hx 1 h1
    rwa [pw_one hq] at this
  · obtain rfl : m = 1 := by omega
    have h2 := times_rounds (hB x hx).1
    rw [(hB x hx).2] at h2
    rw [← pw_one hq, hr, h2]; exact hx
/-- Whether some are rising rows of a group. -/
def rowsInB (G B : List ByteArray) : Bool := B.all (inL G) && incB B
theorem inc_srt {B : List ByteArray} (h : incB B = true) : Srt B := by
  have h1 : ∀ i, i + 1 < B.length → ∀ x y, B[i]? = some x → B[i + 1]? = some y → less x y = true := fun i hi x y hx hy => by
    have := List.all_eq_true.1 h (i + 1) (List.mem_range.2 hi)
    simpa [okInc, List.getD, hx, hy] using this
  have h2 : ∀ (d i : Nat) (x y : ByteArray), B[i]? = some x → B[i + d + 1]? = some y → less x y = true := by
    intro d
    induction d with
    | zero => intro i x y hx hy; exact h1 i (List.getElem?_eq_some_iff.1 hy).1 x y hx hy
    | succ d ih =>
      intro i x y hx hy
      have hl := (List.getElem?_eq_some_iff.1 hy).1
      obtain ⟨z, hz⟩ : ∃ z, B[i + d + 1]? = some z := ⟨_, List.getElem?_eq_getElem (by omega)⟩
      exact less_trans (ih i x z hx hz) (h1 (i + d + 1) (by omega) z y hz hy)
  rw [Srt, List.pairwise_iff_getElem]
  intro i j hi hj hij
  have := h2 (j - i - 1) i _ _ (List.getElem?_eq_getElem hi) (by rw [show i + (j - i - 1) + 1 = j by omega]; exact List.getElem?_eq_getElem hj)
  rw [leS]
  rcases hc : less B[j] B[i] with _ | _
  · rfl
  · have := less_trans this hc
    rw [less_irr] at this; cases this
end Go.Proofs.Ytpccbmndgdiloaa
/-
  DERIVED: THE SHELF's CONTRACTS AT THIS DUMP, IN PLAIN WORDS (tools/lay-plain.mjs out of 'YtpccbmndgdiloaaShelf.lean', which tools/lay-shelf.mjs wrote): THE SAME DECLARATIONS UNDER THE SAME NAMES: 'import', 'namespace', 'open', 'def', 'theorem' AND NOTHING ELSE: no command of the shelf's: FOR A HAND-IN. Each laying: the table of numbers ('.._ren') and one theorem, a field a fact of the dump's own or the kernel's comparison; each contract: ONE APPLICATION.
-/
namespace Go.Proofs
open Go.Shelf
def Try.lays190_ren : Go.Shelf.Ren := ⟨fun | 190 => 217 | 125 => 238 | 258 => 237 | 128 => 250 | 129 => 251 | 302 => 242 | 303 => 243 | 304 => 244 | 305 => 245 | 306 => 246 | 307 => 247 | 308 => 235 | 309 => 248 | 310 => 249 | 333 => 253 | 329 => 254 | 330 => 255 | 334 => 256 | 335 => 257 | 336 => 241 | 344 => 258 | n => n, fun | 31 => 24 | 9 => 9 | 3 => 3 | 46 => 192 | 0 => 0 | 51 => 209 | 53 => 102 | 4 => 4 | 183 => 203 | 182 => 202 | 131 => 188 | 5 => 5 | 218 => 211 | 222 => 215 | 228 => 217 | 229 => 218 | n => n, fun | n => n⟩
theorem Try.lays190 : Go.Proofs.Lays.n190 Try.prog Try.lays190_ren := {
  mixed := by kernel_rfl
  f125 := Try.func238.trans (congrArg some (by kernel_rfl))
  f128 := Try.func250.trans (congrArg some (by kernel_rfl))
  f129 := Try.func251.trans (congrArg some (by kernel_rfl))
  f190 := Try.func217.trans (congrArg some (by kernel_rfl))
  f258 := Try.func237.trans (congrArg some (by kernel_rfl))
  f302 := Try.func242.trans (congrArg some (by kernel_rfl))
  f303 := Try.func243.trans (congrArg some (by kernel_rfl))
  f304 := Try.func244.trans (congrArg some (by kernel_rfl))
  f305 := Try.func245.trans (congrArg some (by kernel_rfl))
  f306 := Try.func246.trans (congrArg some (by kernel_rfl))
  f307 := Try.func247.trans (congrArg some (by kernel_rfl))
  f308 := Try.func235.trans (congrArg some (by kernel_rfl))
  f309 := Try.func248.trans (congrArg some (by kernel_rfl))
  f310 := Try.func249.trans (congrArg some (by kernel_rfl))
  f329 := Try.func254.trans (congrArg some (by kernel_rfl))
  f330 := Try.func255.trans (congrArg some (by kernel_rfl))
  f333 := Try.func253.trans (congrArg some (by kernel_rfl))
  f334 := Try.func256.trans (congrArg some (by kernel_rfl))
  f335 := Try.func257.trans (congrArg some (by kernel_rfl))
  f336 := Try.func241.trans (congrArg some (by kernel_rfl))
  f344 := Try.func258.trans (congrArg some (by kernel_rfl))
  t0 := Try.underlying0
  a0 := Try.isAgg0
  z0 := Try.sizeOf0
  v0 := Try.zeroValue0
  t3 := Try.underlying3
  a3 := Try.isAgg3
  z3 := Try.sizeOf3
  v3 := Try.zeroValue3
  t4 := Try.underlying4
  a4 := Try.isAgg4
  z4 := Try.sizeOf4
  v4 := Try.zeroValue4
  t5 := Try.underlying5
  a5 := Try.isAgg5
  z5 := Try.sizeOf5
  v5 := Try.zeroValue5
  t9 := Try.underlying9
  a9 := Try.isAgg9
  z9 := Try.sizeOf9
  v9 := Try.zeroValue9
  t31 := Try.underlying24
  a31 := Try.isAgg24
  z31 := Try.sizeOf24
  v31 := Try.zeroValue24
  t46 := Try.underlying192
  a46 := Try.isAgg192
  z46 := Try.sizeOf192
  v46 := Try.zeroValue192
  t51 := Try.underlying209
  a51 := Try.isAgg209
  z51 := Try.sizeOf209
  v51 := Try.zeroValue209
  t53 := Try.underlying102
  a53 := Try.isAgg102
  z53 := Try.sizeOf102
  v53 := Try.zeroValue102
  t131 := Try.underlying188
  a131 := Try.isAgg188
  z131 := Try.sizeOf188
  v131 := Try.zeroValue188
  t182 := Try.underlying202
  a182 := Try.isAgg202
  z182 := Try.sizeOf202
  v182 := Try.zeroValue202
  t183 := Try.underlying203
  a183 := Try.isAgg203
  z183 := Try.sizeOf203
  v183 := Try.zeroValue203
  t218 := Try.underlying211
  a218 := Try.isAgg211
  z218 := Try.sizeOf211
  v218 := Try.zeroValue211
  t222 := Try.underlying215
  a222 := Try.isAgg215
  z222 := Try.sizeOf215
  v222 := Try.zeroValue215
  t228 := Try.underlying217
  a228 := Try.isAgg217
  z228 := Try.sizeOf217
  v228 := Try.zeroValue217
  t229 := Try.underlying218
  a229 := Try.isAgg218
  z229 := Try.sizeOf218
  v229 := Try.zeroValue218 }
open Go.Sort Go.RowKit in
theorem Try.slices_Sort_string (blk off cap : Nat) (ss : List (List UInt8)) (w : World) (hH : Holds encStr w blk off ss.toArray) (hblk : blk < w.heap.size) (hsz : ss.length < 4611686018427387904) :
    Calls Try.prog 217 #[.slice (some ⟨blk, off, none⟩) ss.length cap] w fun e w' =>
      e = .returned (.tuple #[]) ∧ ∃ n os, w' = grow (putRow encStr (Sort.ahead w n) blk off (ss.mergeSort fun x y => decide (x ≤ y)).toArray) os := Any.slices_Sort_string Try.lays190 blk off cap ss w hH hblk hsz
end Go.Proofs
/- The library's sort of a row of texts of the call's own: the same row, the same texts, in order. -/
namespace Go.Proofs.Ytpccbmndgdiloaa
set_option linter.unusedVariables false
set_option linter.unusedSimpArgs false
open Go.ChangeShapes Go.WideShapes Go.ChangeAt Go.RowKit Go.Deep
theorem bytes_lt : ∀ a b : List UInt8, Op.bytesLess a b = decide (a < b)
  | [], [] => by simp [Op.bytesLess]
  | [], _ :: _ => by simp [Op.bytesLess]
  | _ :: _, [] => by simp [Op.bytesLess]
  | x :: a, y :: b => by
    rw [Op.bytesLess, bytes_lt a b]
    simp only [List.cons_lt_cons_iff]
    rcases Nat.lt_trichotomy x.toNat y.toNat with h | h | h
    · have h1 : x < y := h
      simp [h1]
    · have h1 : x = y := UInt8.toNat_inj.1 h
      subst h1; simp
    · have h1 : ¬ x < y := fun q => Nat.lt_asymm h q
      have h2 : ¬ x = y := fun q => by subst q; exact Nat.lt_irrefl _ h
      simp [h1, h2]
theorem ba_list (s : ByteArray) : (⟨s.data.toList.toArray⟩ : ByteArray) = s := by cases s; simp
theorem le_leS {x y : List UInt8} (h : decide (x ≤ y) = true) : leS ⟨x.toArray⟩ ⟨y.toArray⟩ = true := by
  rw [leS, less, ByteArray.toList_eq, ByteArray.toList_eq, bytes_lt]
  simpa using h
theorem sort_strs {g n c base : Nat} {l : List ByteArray} {w : World} (ho : Owned strE 1 9 w base (some ⟨g, 0, none⟩) n c l) (hn : n ≤ 16777216) :
    Calls Try.prog 217 #[.slice (some ⟨g, 0, none⟩) n c] w fun e w' => e = .returned (.tuple #[]) ∧ ∃ L, Owned strE 1 9 w' base (some ⟨g, 0, none⟩) n c L ∧ L.Perm l ∧ Srt L ∧ w.grownBy w' (some g) := by
  obtain ⟨he, hl, _, hv⟩ := ho
  rcases hv with ⟨h0, _⟩ | ⟨g', c', cur, hv, hbase, hb, h1, h2, h3, h4⟩
  · cases h0
  cases hv
  obtain ⟨ss, hss⟩ : ∃ ss, ss = l.map fun s : ByteArray => s.data.toList := ⟨_, rfl⟩
  have hlen : ss.length = n := by rw [hss, List.length_map, hl]
  have hE : ∀ m : List ByteArray, m.flatMap strE = (m.map fun s : ByteArray => s.data.toList).map encStr := fun m => by
    rw [show strE = fun s => [Value.string s] from rfl, flatMap_one, List.map_map]
    exact List.map_congr_left fun s _ => by simp [encStr, ba_list]
  have hH : Sort.Holds encStr w g 0 ss.toArray := holds_of_block hb (by rw [hlen, hss, ← hE]; simpa using h4)
  have hc := Try.slices_Sort_string g 0 c ss w hH (Array.getElem?_eq_some_iff.1 hb).1 (by omega)
  rw [hlen] at hc
  refine hc.mono ?_
  rintro e w' ⟨rfl, k, os, rfl⟩
  refine ⟨rfl, (ss.mergeSort fun x y => decide (x ≤ y)).map fun x => (⟨x.toArray⟩ : ByteArray), ?_, ?_, ?_, grownBy_sorted _⟩
  · have hr := ownsRow_sorted (n := k) (os := os) (ss := ss) (ts := ss.mergeSort fun x y => decide (x ≤ y)) (by simp) hbase hb (by rw [hlen]; exact h1) h2 h3
    rw [hlen] at hr
    refine ⟨he, by simp [hlen], ?_⟩
    have e2 : ((ss.mergeSort fun x y => decide (x ≤ y)).map fun x : List UInt8 => (⟨x.toArray⟩ : ByteArray)).map (fun s : ByteArray => s.data.toList) = ss.mergeSort fun x y => decide (x ≤ y) := by
      rw [List.map_map, List.map_congr_left (g := id) (fun x _ => by simp)]; simp
    rw [hE, e2]
    exact hr
  · have hp : (ss.mergeSort fun x y => decide (x ≤ y)).Perm ss := List.mergeSort_perm _ _
    have hq := hp.map fun x => (⟨x.toArray⟩ : ByteArray)
    rw [hss, List.map_map] at hq
    have e1 : l.map ((fun x : List UInt8 => (⟨x.toArray⟩ : ByteArray)) ∘ fun s : ByteArray => s.data.toList) = l := by
      rw [List.map_congr_left (g := id) (fun s _ => by exact ba_list s)]; simp
    rw [e1] at hq
    rw [hss]; exact hq
  · have hs := List.pairwise_mergeSort (le := fun x y : List UInt8 => decide (x ≤ y)) (fun a b c h1 h2 => by simp at h1 h2 ⊢; exact List.le_trans h1 h2) (fun a b => by simp; exact List.le_total a b) ss
    rw [Srt, List.pairwise_map]
    exact hs.imp fun h => le_leS h
end Go.Proofs.Ytpccbmndgdiloaa
/- A map to bools that the call has made, used as a set of keys. -/
namespace Go.Proofs.Ytpccbmndgdiloaa
set_option linter.unusedVariables false
set_option linter.unusedSimpArgs false
open Go.ChangeShapes Go.WideShapes Go.ChangeAt Go.RowKit Go.Deep
open Go.Maps (Keyed)

/-- Block b is a map of at most n entries that holds true at the keys of S and at no other. -/
def SetOf (P : Program) (w : World) (k e : TypeId) (b n : Nat) (S : List Value) : Prop :=
  ∃ D : DataW Unit, w.ownsMap P k (plainElem P e) b n D ∧ ∀ key kl, keyOf P k key = some kl → (key ∈ S → D.atKey kl (.lit (.bool false)) = .lit (.bool true)) ∧ (key ∉ S → D.atKey kl (.lit (.bool false)) = .lit (.bool false))
section
variable {P : Program} {w w' : World} {k e : TypeId} {b n : Nat} {S : List Value}
theorem SetOf.made (P : Program) (w : World) (k e : TypeId) : SetOf P (w.alloc (.map #[] 0)) k e w.heap.size 0 [] :=
  ⟨.map [], World.ownsMap_made w P k _, fun key kl _ => ⟨fun h => (by cases h), fun _ => rfl⟩⟩
theorem SetOf.lt (h : SetOf P w k e b n S) : b < w.heap.size := by
  obtain ⟨D, h1, _⟩ := h
  exact h1.lt
theorem SetOf.kept {row : Option Nat} (h : SetOf P w k e b n S) (hg : w.grownBy w' row) (hne : some b ≠ row) : SetOf P w' k e b n S := by
  obtain ⟨D, h1, h2⟩ := h
  exact ⟨D, h1.kept hg hne, h2⟩
theorem SetOf.up (h : SetOf P w k e b n S) (hb : Below w.heap.size w w') : SetOf P w' k e b n S := h.kept (grown_of_below hb) (by simp)
theorem SetOf.alloc (h : SetOf P w k e b n S) (o : Obj) : SetOf P (w.alloc o) k e b n S := h.up ((Below.refl _ _).alloc (Nat.le_refl _) o)
theorem plainElem_bool_inv (he : P.underlying e = some .bool) {v : Value} {x : Bool} {ps : List MemPlace} (h : plainElem (H := Unit) P e v = some (.lit (.bool x), ps)) : v = .bool x := by
  unfold plainElem at h
  rw [he] at h
  cases v <;> simp at h
  rw [h.1]
theorem SetOf.look {t : TypeId} (h : SetOf P w k e b n S) (K : Keyed P k) (ht : P.underlying t = some (.map k e)) (he : P.underlying e = some .bool) (hz : (zeroValue e).run P w = .ok (.bool false) w) {key : Value} {kl : Lit} (hkey : keyOf P k key = some kl) :
    (key ∈ S → (Instr.lookup t (.map (some b)) key false).run P w = .ok (.bool true) w) ∧ (key ∉ S → (Instr.lookup t (.map (some b)) key false).run P w = .ok (.bool false) w) := by
  obtain ⟨D, h1, h2⟩ := h
  obtain ⟨v, ps, hrun, hv⟩ := h1.lookup K ht hz (plainElem_bool he false) hkey
  obtain ⟨a1, a2⟩ := h2 key kl hkey
  refine ⟨fun hi => ?_, fun hi => ?_⟩
  · rw [a1 hi] at hv
    rw [hrun, plainElem_bool_inv he hv]
  · rw [a2 hi] at hv
    rw [hrun, plainElem_bool_inv he hv]
end
theorem wpList_set_add {P : Program} {ops : Array Oper} {rest : List Oper} {o : Oper} {a : Act} {Q : Exit → Act → World → Prop} {W : World} (hgd : o.guard = none) (M X V : Operand) (t : TypeId) (hop : o.op = Op.mapUpdate t M X V)
    {k e : TypeId} (K : Keyed P k) (ht : P.underlying t = some (.map k e)) (he : P.underlying e = some .bool) {b n : Nat} {S : List Value} (hm : a.eval M = .map (some b)) (h : SetOf P W k e b n S) (hn : n ≤ 16777216) {key : Value} (hx : a.eval X = key) (hv : a.eval V = .bool true)
    {kl : Lit} (hkey : keyOf P k key = some kl) (hK : ∀ w', SetOf P w' k e b (n + 1) (key :: S) → W.grownBy w' (some b) → wpList P ops Q rest (a.put o.dst undef) w') : wpList P ops Q (o :: rest) a W := by
  obtain ⟨D, h1, h2⟩ := h
  refine wpList_mapUpdate_own W hgd M X V t hop k e K ht _ b n D hm h1 (by unfold maxLen; omega) key (.bool true) kl hx hv hkey (.lit (.bool true)) [] (plainElem_bool he true) fun w' hown hg => hK w' ⟨_, hown, fun key' kl' hk' => ?_⟩ hg
  by_cases ek : kl' = kl
  · subst ek
    have e1 : key' = key := K.inj hk' hkey
    subst e1
    rw [Maps.atKey_put_same h1.isMap (K.key hkey)]
    exact ⟨fun _ => rfl, fun hne => absurd (List.mem_cons_self ..) hne⟩
  · have e1 : key' ≠ key := fun e2 => ek (by rw [e2, hkey] at hk'; injection hk' with hk'; exact hk'.symm)
    rw [Maps.atKey_put_other ek]
    obtain ⟨a1, a2⟩ := h2 key' kl' hk'
    refine ⟨fun hi => a1 ?_, fun hi => a2 (fun hc => hi (List.mem_cons_of_mem _ hc))⟩
    rcases List.mem_cons.1 hi with hi | hi
    · exact absurd hi e1
    · exact hi
end Go.Proofs.Ytpccbmndgdiloaa
/- The element types whose slices are made and appended to. -/
namespace Go.Proofs.Ytpccbmndgdiloaa
set_option linter.unusedVariables false
set_option linter.unusedSimpArgs false
open Go.ChangeShapes Go.WideShapes Go.ChangeAt Go.RowKit Go.Deep
theorem Try.elInt : ElemOk Try.prog 60 3 (.int .i64 0) 1 8 := ⟨Try.underlying60, by kernel_rfl, rfl, by decide⟩
theorem Try.elBool : ElemOk Try.prog 38 4 (.bool false) 1 1 := ⟨Try.underlying38, by kernel_rfl, rfl, by decide⟩
theorem Try.elStr : ElemOk Try.prog 24 9 (.string ByteArray.empty) 1 16 := ⟨Try.underlying24, by kernel_rfl, rfl, by decide⟩
end Go.Proofs.Ytpccbmndgdiloaa
/- The walks through truth: no row twice, both sides' ways. -/
namespace Go.Proofs.Ytpccbmndgdiloaa
set_option linter.unusedVariables false
set_option linter.unusedSimpArgs false
open Go.ChangeShapes Go.WideShapes Go.ChangeAt Go.RowKit Go.Deep
open Go.Maps (Keyed string_keyed)
open Go.WideMaps (keyOf_string_mk)
def strV (s : ByteArray) : Value := .string s
theorem strV_mem {s : ByteArray} {l : List ByteArray} : strV s ∈ l.map strV ↔ s ∈ l := by
  rw [List.mem_map]
  constructor
  · rintro ⟨x, hx, e⟩
    injection e with e
    subst e; exact hx
  · intro h; exact ⟨s, h, rfl⟩
set_option maxRecDepth 100000 in
theorem impl_isTrue {A : Option Addr} {N c : Nat} {l : List ByteArray} {w : World} (hN : l.length = N) (h : Strs w A l) (hz : N ≤ 16000000) (hs : ∀ s ∈ l, s.size ≤ 16777216) :
    Calls Try.prog 114 #[.slice A N c] w fun e w' => e = .returned (.bool (nodupB l)) ∧ Below w.heap.size w w' := by
  subst hN
  have HS := Lib.hid hs
  clear hs
  have hmm := @run_makeMap Try.prog
  have KS := string_keyed (P := Try.prog) (k := 9) Try.underlying9
  go_in
  go_wp2
  clear hmm
  go_loopw [9] (fun i wr => ∃ k : Nat, k ≤ l.length ∧ i = .int .i64 k ∧ Hid ((l.take k).Nodup) ∧ Hid (SetOf Try.prog wr 9 4 w.heap.size k ((l.take k).map strV).reverse) ∧ Below w.heap.size w wr) (fun i _ => l.length - (intOf i).toNat)
  case atStart => exact ⟨0, Nat.zero_le _, rfl, Lib.hid (by simp), Lib.hid (by simpa using SetOf.made Try.prog w 9 4), by (repeat' (first | (with_reducible exact Below.refl _ _) | (with_reducible assumption) | (with_reducible refine below_drewN ?_ _) | (with_reducible refine Below.drew ?_) | (with_reducible refine below_alloc ?_ _) | (with_reducible refine Below.alloc ?_ ?_ _) | (with_reducible refine Below.setCell ?_ ?_ _) | (with_reducible refine below_go ?_ (by with_reducible assumption)) | (with_reducible refine below_then (by with_reducible assumption) ?_ ?_) | go_size))⟩
  case round =>
    obtain ⟨k, hk, rfl, HD, HM, hb⟩ := hrel
    by_cases hlt : k < l.length
    · obtain ⟨b1, o1, y, rfl, hbb, hy, hcy⟩ := (h.below hb (Nat.le_refl _)).at_str hlt
      have hys := HS.out y (List.mem_of_getElem? hy)
      have hkey := keyOf_string_mk (P := Try.prog) (k := 9) Try.underlying9 (s := y) (by unfold maxLen; omega)
      have lk := HM.out.look (t := 116) KS Try.underlying116 Try.underlying4 (by kernel_rfl) hkey
      have HY := Lib.hid hy
      have mem : (strV y ∈ ((l.take k).map strV).reverse) ↔ y ∈ l.take k := by rw [List.mem_reverse, strV_mem]
      by_cases hin : y ∈ l.take k
      · have lk1 := lk.1 (mem.2 hin)
        have e1 := Lib.hid (show nodupB l = false by
          rw [nodupB, decide_eq_false_iff_not]
          intro hn
          rw [← List.take_append_drop k l, List.nodup_append] at hn
          exact hn.2.2 y hin y (by rw [List.drop_eq_getElem_cons hlt, (List.getElem?_eq_some_iff.1 HY.out).2]; exact List.mem_cons_self ..) rfl)
        clear lk mem hin hy hkey
        go_wp2
        go_ret
        rw [e1.out]
        exact ⟨rfl, hb⟩
      · have lk1 := lk.2 (fun q => hin (mem.1 q))
        have HIN := Lib.hid hin
        have HKEY := Lib.hid hkey
        clear lk mem hin hy hkey
        go_wp2_with (first | (at_mapUpdate; go_must ((refine wpList_set_add rfl (.tmp 16) (.tmp 17) (.const (.bool true)) 116 rfl KS Try.underlying116 Try.underlying4 rfl HM.out ?_ rfl rfl HKEY.out ?_; (focus (first | omega | (simp only [World.size_alloc]; done) | (simp only [World.size_alloc]; omega) | (simp; done) | (simp; omega))); intro w2 hm2 hg2))))
        go_roundw
        case rel => exact ⟨k + 1, by omega, by go_num, Lib.hid (by
          rw [take_succ_some HY.out, List.nodup_append]
          exact ⟨HD.out, by simp, fun a ha b hb2 e => HIN.out (by rw [← List.mem_singleton.1 hb2, ← e]; exact ha)⟩), Lib.hid (by rw [take_succ_some HY.out, List.map_append, List.reverse_append]; exact hm2), hb.grown hg2 hb.size (fun j hj => by injection hj with hj; omega)⟩
        case measure => simp [intOf]; omega
    · obtain rfl : k = l.length := by omega
      have e1 := Lib.hid (show nodupB l = true by rw [nodupB, decide_eq_true_iff]; have := HD.out; rwa [List.take_of_length_le (Nat.le_refl _)] at this)
      go_wp2
      go_ret
      rw [e1.out]
      exact ⟨rfl, hb⟩
end Go.Proofs.Ytpccbmndgdiloaa
/- Tables of ints: a row of slices, each of them a row of ints of its own. -/
namespace Go.Proofs.Ytpccbmndgdiloaa
set_option linter.unusedVariables false
set_option linter.unusedSimpArgs false
open Go.ChangeShapes Go.WideShapes Go.ChangeAt Go.RowKit Go.Deep

theorem wrap_id {x : Int} (h : -9223372036854775808 ≤ x ∧ x ≤ 9223372036854775807) : IntKind.i64.wrap x = x := by
  rw [PlainAid.i64_is]; unfold wrap64; omega
theorem wrap_succ {k : Nat} (h : k ≤ 16777216) : IntKind.i64.wrap ((k : Int) + 1) = ((k + 1 : Nat) : Int) := by
  rw [wrap_id (by omega)]; omega
/-- A slice's head: address, elements, capacity. -/
abbrev Hd := Option Addr × Nat × Nat
def slcE (v : Hd) : List Value := [.slice v.1 v.2.1 v.2.2]
theorem slcE_len (v : Hd) : (slcE v).length = 1 := rfl
theorem slcE_one (v : Hd) : ∀ u ∈ slcE v, u.oneCell' = true := fun u hu => by simp [slcE] at hu; subst hu; rfl
theorem Try.elInts : ElemOk Try.prog 169 60 (.slice none 0 0) 1 24 := ⟨Try.underlying169, by kernel_rfl, rfl, by decide⟩
theorem Recs.at_slc {w : World} {A : Option Addr} {l : List Hd} {k : Nat} (h : Recs slcE 1 w A l) (hk : k < l.length) : ∃ b off x, A = some ⟨b, off, none⟩ ∧ b < w.heap.size ∧ l[k]? = some x ∧ w.cell? ⟨b, off + k, none⟩ = some (.slice x.1 x.2.1 x.2.2) := by
  obtain ⟨b, off, hA, hb, hc⟩ := h.cells (by omega)
  obtain ⟨x, hx⟩ := some_of_lt hk
  exact ⟨b, off, x, hA, hb, hx, by simpa using hc k x 0 _ hx rfl⟩

theorem Owned.same {α : Type} {e : α → List Value} {s : Nat} {E : TypeId} {w w' : World} {base : Nat} {A : Option Addr} {n c : Nat} {l : List α} (h : Owned e s E w base A n c l)
    (hk : ∀ g, (Value.slice A n c).ownBlock = some g → w'.heap[g]? = w.heap[g]?) : Owned e s E w' base A n c l := by
  refine ⟨h.1, h.2.1, h.2.2.1, ?_⟩
  rcases h.2.2.2 with h0 | ⟨g, cap, cur, hv, hg, hh, r⟩
  · exact .inl h0
  · refine .inr ⟨g, cap, cur, hv, hg, ?_, r⟩
    rw [hk g (by rw [hv]; rfl)]
    exact hh

/-- The table T is what the heads vs in the row with address A read as. -/
def TabR (vs : List Hd) (w : World) (A : Option Addr) (T : List (List Int)) : Prop :=
  vs.length = T.length ∧ Recs slcE 1 w A vs ∧ ∀ (k : Nat) (v : Hd) (r : List Int), vs[k]? = some v → T[k]? = some r → v.2.1 = r.length ∧ Ints w v.1 r
theorem TabR.below {vs : List Hd} {w w' : World} {A : Option Addr} {T : List (List Int)} {B : Nat} (h : TabR vs w A T) (hb : Below B w w') (hB : w.heap.size ≤ B) : TabR vs w' A T :=
  ⟨h.1, h.2.1.below hb hB, fun k v r hv hr => ⟨(h.2.2 k v r hv hr).1, (h.2.2 k v r hv hr).2.below hb hB⟩⟩
theorem TabR.up {vs : List Hd} {w w' : World} {A : Option Addr} {T : List (List Int)} (h : TabR vs w A T) (hb : Below w.heap.size w w') : TabR vs w' A T := h.below hb (Nat.le_refl _)
/-- Row k of a table that is read: its head's cell, and the row. -/
theorem TabR.row {vs : List Hd} {w : World} {A : Option Addr} {T : List (List Int)} {k : Nat} (h : TabR vs w A T) (hk : k < T.length) :
    ∃ b off v r, A = some ⟨b, off, none⟩ ∧ b < w.heap.size ∧ T[k]? = some r ∧ w.cell? ⟨b, off + k, none⟩ = some (.slice v r.length (v, r.length, (vs[k]?.getD (none, 0, 0)).2.2).2.2) ∧ Ints w v r := by
  obtain ⟨b, off, v, hA, hb, hv, hc⟩ := h.2.1.at_slc (k := k) (by rw [h.1]; exact hk)
  obtain ⟨r, hr⟩ := some_of_lt hk
  obtain ⟨h1, h2⟩ := h.2.2 k v r hv hr
  refine ⟨b, off, v.1, r, hA, hb, hr, ?_, h2⟩
  rw [hc, h1, hv]; rfl
theorem TabR.rowc {vs : List Hd} {w : World} {A : Option Addr} {T : List (List Int)} {i : Nat} {r : List Int} (h : TabR vs w A T) (hr : T[i]? = some r) (h0 : 0 < r.length) :
    ∃ g og b o c, A = some ⟨g, og, none⟩ ∧ g < w.heap.size ∧ b < w.heap.size ∧ w.cell? ⟨g, og + i, none⟩ = some (.slice (some ⟨b, o, none⟩) r.length c) ∧ ∀ j x, r[j]? = some x → w.cell? ⟨b, o + j, none⟩ = some (.int .i64 x) := by
  obtain ⟨g, og, v, hA, hb, hv, hc⟩ := h.2.1.at_slc (k := i) (by rw [h.1]; exact (List.getElem?_eq_some_iff.1 hr).1)
  obtain ⟨h1, h2⟩ := h.2.2 i v r hv hr
  obtain ⟨b, o, hA2, hb2, hc2⟩ := h2.cells h0
  refine ⟨g, og, b, o, v.2.2, hA, hb, hb2, ?_, fun j x hx => by simpa using hc2 j x 0 _ hx rfl⟩
  rw [hc, h1, hA2]
/-- .. all of it memory of the call's own, no two rows in one block. -/
structure Tab (vs : List Hd) (w : World) (base : Nat) (A : Option Addr) (n c : Nat) (T : List (List Int)) : Prop where
  len : T.length = n
  top : Owned slcE 1 60 w base A n c vs
  row : ∀ (k : Nat) (v : Hd) (r : List Int), vs[k]? = some v → T[k]? = some r → Owned intE 1 3 w base v.1 v.2.1 v.2.2 r
  off : ∀ (k : Nat) (v : Hd), vs[k]? = some v → ∀ g, (Value.slice v.1 v.2.1 v.2.2).ownBlock = some g → (Value.slice A n c).ownBlock ≠ some g
  two : ∀ (j k : Nat) (v u : Hd), j ≠ k → vs[j]? = some v → vs[k]? = some u → ∀ g, (Value.slice v.1 v.2.1 v.2.2).ownBlock = some g → (Value.slice u.1 u.2.1 u.2.2).ownBlock ≠ some g
/-- All blocks of the table lie between lo and hi. -/
def TabIn (vs : List Hd) (A : Option Addr) (n c lo hi : Nat) : Prop := InRange (.slice A n c) lo hi ∧ ∀ (k : Nat) (v : Hd), vs[k]? = some v → InRange (.slice v.1 v.2.1 v.2.2) lo hi
section
variable {vs : List Hd} {w w' : World} {base : Nat} {A : Option Addr} {n c : Nat} {T : List (List Int)}
theorem Tab.vlen (h : Tab vs w base A n c T) : vs.length = T.length := by rw [h.top.len, h.len]
theorem Tab.recs (h : Tab vs w base A n c T) : TabR vs w A T := ⟨h.vlen, h.top.recs, fun k v r hv hr => ⟨(h.row k v r hv hr).len.symm, (h.row k v r hv hr).recs⟩⟩
theorem Tab.rowAt (h : Tab vs w base A n c T) {k : Nat} {v : Hd} (hv : vs[k]? = some v) : ∃ r, T[k]? = some r ∧ Owned intE 1 3 w base v.1 v.2.1 v.2.2 r := by
  have hk := (List.getElem?_eq_some_iff.1 hv).1
  obtain ⟨r, hr⟩ := some_of_lt (l := T) (k := k) (by rw [← h.vlen]; exact hk)
  exact ⟨r, hr, h.row k v r hv hr⟩
theorem Tab.range (h : Tab vs w base A n c T) : TabIn vs A n c base w.heap.size := ⟨h.top.range, fun k v hv => by
  obtain ⟨r, _, ho⟩ := h.rowAt hv
  exact ho.range⟩
theorem Tab.same {lo hi : Nat} (h : Tab vs w base A n c T) (hi_ : TabIn vs A n c lo hi) (hk : ∀ g, lo ≤ g → g < hi → w'.heap[g]? = w.heap[g]?) : Tab vs w' base A n c T where
  len := h.len
  top := h.top.same fun g hg => hk g (hi_.1 g hg).1 (hi_.1 g hg).2
  row := fun k v r hv hr => (h.row k v r hv hr).same fun g hg => hk g (hi_.2 k v hv g hg).1 (hi_.2 k v hv g hg).2
  off := h.off
  two := h.two
theorem Tab.up (h : Tab vs w base A n c T) (hb : Below w.heap.size w w') : Tab vs w' base A n c T := h.same h.range fun g _ hg => hb.block g hg
theorem Tab.base_le {base' : Nat} (h : Tab vs w base A n c T) (hb : base' ≤ base) : Tab vs w base' A n c T :=
  ⟨h.len, h.top.base_le hb, fun k v r hv hr => (h.row k v r hv hr).base_le hb, h.off, h.two⟩
theorem Tab.kept {lo hi a b : Nat} {v : Value} (h : Tab vs w base A n c T) (hi_ : TabIn vs A n c lo hi) (hlt : hi ≤ w.heap.size) (hg : w.grownBy w' v.ownBlock) (hv : InRange v a b) (hd : hi ≤ a ∨ b ≤ lo) : Tab vs w' base A n c T :=
  h.same hi_ fun g g1 g2 => hg.block g (by omega) fun e => by
    have := hv g e.symm
    omega
theorem Tab.nil (w : World) (base : Nat) : Tab [] w base none 0 0 [] :=
  ⟨rfl, Owned.nil slcE_len _ _ _, fun k v r hv _ => by simp at hv, fun k v hv => by simp at hv, fun j k v u _ hv => by simp at hv⟩
end
theorem Owned.sameB {α : Type} {e : α → List Value} {s : Nat} {E : TypeId} {w w' : World} {base : Nat} {A : Option Addr} {n c lo hi B : Nat} {l : List α} (h : Owned e s E w base A n c l)
    (hr : InRange (.slice A n c) lo hi) (hb : Below B w w') (hB : hi ≤ B) : Owned e s E w' base A n c l := h.same fun g hg => hb.block g (by have := hr g hg; omega)
theorem Tab.sameB {vs : List Hd} {w w' : World} {base : Nat} {A : Option Addr} {n c lo hi B : Nat} {T : List (List Int)} (h : Tab vs w base A n c T)
    (hr : TabIn vs A n c lo hi) (hb : Below B w w') (hB : hi ≤ B) : Tab vs w' base A n c T := h.same hr fun g _ hg => hb.block g (by omega)
/-- The block of row i. -/
def hBlk (vs : List Hd) (i : Nat) : Nat := match vs[i]? with | some (some a, _, _) => a.block | _ => 0
/-- A table that is being made: the heads lie in block g; the rows i of which F holds are there, no two in one block. -/
structure Part (vs : List Hd) (w : World) (base g n : Nat) (F : Nat → Prop) (R : Nat → List Int) : Prop where
  gb : base ≤ g
  top : Owned slcE 1 60 w base (some ⟨g, 0, none⟩) n n vs
  row : ∀ i, F i → i < n → vs[i]? = some (some ⟨hBlk vs i, 0, none⟩, (R i).length, (R i).length) ∧ g < hBlk vs i ∧ hBlk vs i < w.heap.size ∧ Owned intE 1 3 w base (some ⟨hBlk vs i, 0, none⟩) (R i).length (R i).length (R i)
  two : ∀ i j, F i → F j → i < n → j < n → i ≠ j → hBlk vs i ≠ hBlk vs j
section
variable {vs : List Hd} {w w' : World} {base g n : Nat} {F F' : Nat → Prop} {R : Nat → List Int}
theorem Part.up (h : Part vs w base g n F R) (hB : Below w.heap.size w w') : Part vs w' base g n F R :=
  ⟨h.gb, h.top.up hB, fun i hi hn => ⟨(h.row i hi hn).1, (h.row i hi hn).2.1, Nat.lt_of_lt_of_le (h.row i hi hn).2.2.1 hB.size, (h.row i hi hn).2.2.2.up hB⟩, h.two⟩
theorem Part.drew (h : Part vs w base g n F R) : Part vs w.drew base g n F R := h.up (Below.drew (Below.refl _ _))
theorem Part.less (h : Part vs w base g n F R) (hF : ∀ i, F' i → F i) : Part vs w base g n F' R :=
  ⟨h.gb, h.top, fun i hi hn => h.row i (hF i hi) hn, fun i j hi hj => h.two i j (hF i hi) (hF j hj)⟩
/-- One other block is written, or grown. -/
theorem Part.past {p : Nat} (h : Part vs w base g n F R) (hg : w.grownBy w' (some p)) (h1 : p ≠ g) (h2 : ∀ i, F i → i < n → hBlk vs i ≠ p) : Part vs w' base g n F R := by
  have key : ∀ {A : Option Addr} {m c q : Nat}, q < w.heap.size → q ≠ p → (Value.slice (some ⟨q, 0, none⟩) m c).ownBlock = some q → w'.heap[q]? = w.heap[q]? := fun hq hne _ => hg.block _ hq (fun e => hne (by injection e))
  refine ⟨h.gb, h.top.same fun q hq => ?_, fun i hi hn => ⟨(h.row i hi hn).1, (h.row i hi hn).2.1, Nat.lt_of_lt_of_le (h.row i hi hn).2.2.1 hg.size, (h.row i hi hn).2.2.2.same fun q hq => ?_⟩, h.two⟩
  · have := (h.top.blk hq).2
    injection hq with hq
    subst hq
    exact hg.block _ this (fun e => h1 (by injection e with e; exact e.symm))
  · have := ((h.row i hi hn).2.2.2.blk hq).2
    injection hq with hq
    subst hq
    exact hg.block _ this (fun e => h2 i hi hn (by injection e))
theorem hb_some {i : Nat} {a : Addr} {m c : Nat} (h : vs[i]? = some (some a, m, c)) : hBlk vs i = a.block := by simp [hBlk, h]
theorem hb_set {i j : Nat} {v : Hd} (h : i ≠ j) : hBlk (vs.set j v) i = hBlk vs i := by
  unfold hBlk
  rw [List.getElem?_set_ne (fun e => h e.symm)]
/-- The head of a row that was not there is stored. -/
theorem Part.head {i0 q m c : Nat} (h : Part vs w base g n F R) (h0 : ¬ F i0) (hi0 : i0 < n) : Part (vs.set i0 (some ⟨q, 0, none⟩, m, c)) (w.setCell ⟨g, i0, none⟩ (.slice (some ⟨q, 0, none⟩) m c)) base g n F R := by
  obtain ⟨y, hy⟩ := some_of_lt (l := vs) (k := i0) (by rw [h.top.len]; exact hi0)
  have p0 := h.top.put (j := 0) (x := ((some ⟨q, 0, none⟩, m, c) : Hd)) (u := .slice (some ⟨q, 0, none⟩) m c) hy (by decide) rfl
  simp only [Nat.mul_one, Nat.add_zero] at p0
  refine ⟨h.gb, p0.1, fun i hi hn => ?_, fun i j hi hj hn hm hne => ?_⟩
  · have hne : i ≠ i0 := fun e => h0 (e ▸ hi)
    obtain ⟨r1, r2, r3, r4⟩ := h.row i hi hn
    rw [hb_set hne, List.getElem?_set_ne (fun e => hne e.symm)]
    refine ⟨r1, r2, by simpa using r3, r4.kept (p0.2) fun k hk e => ?_⟩
    injection hk with hk
    injection e with e
    dsimp only at hk e
    omega
  · have e1 : i ≠ i0 := fun e => h0 (by rw [← e]; exact hi)
    have e2 : j ≠ i0 := fun e => h0 (by rw [← e]; exact hj)
    rw [hb_set e1, hb_set e2]
    exact h.two i j hi hj hn hm hne
/-- A row is done. -/
theorem Part.add {i0 q : Nat} (h : Part vs w base g n F R) (hv : vs[i0]? = some (some ⟨q, 0, none⟩, (R i0).length, (R i0).length)) (hq : g < q) (hr : Owned intE 1 3 w base (some ⟨q, 0, none⟩) (R i0).length (R i0).length (R i0))
    (hne : ∀ i, F i → i < n → i ≠ i0 → hBlk vs i ≠ q) (hF : ∀ i, F' i → F i ∨ i = i0) : Part vs w base g n F' R := by
  have e0 : hBlk vs i0 = q := hb_some hv
  refine ⟨h.gb, h.top, fun i hi hn => ?_, fun i j hi hj hn hm hij => ?_⟩
  · by_cases e : i = i0
    · subst e
      rw [e0]
      exact ⟨hv, hq, (hr.blk rfl).2, hr⟩
    · exact h.row i ((hF i hi).resolve_right e) hn
  · by_cases e : i = i0
    · subst e
      rw [e0]
      exact fun e2 => hne j ((hF j hj).resolve_right (fun e3 => hij e3.symm)) hm (fun e3 => hij e3.symm) e2.symm
    · by_cases e' : j = i0
      · subst e'
        rw [e0]
        exact hne i ((hF i hi).resolve_right e) hn e
      · exact h.two i j ((hF i hi).resolve_right e) ((hF j hj).resolve_right e') hn hm hij
/-- All rows are done. -/
theorem Part.tab (h : Part vs w base g n F R) (hF : ∀ i, i < n → F i) : Tab vs w base (some ⟨g, 0, none⟩) n n ((List.range n).map R) := by
  have hl := h.top.len
  have hk : ∀ {k : Nat} {v : Hd}, vs[k]? = some v → k < n := fun hv => by rw [← hl]; exact (List.getElem?_eq_some_iff.1 hv).1
  refine ⟨by simp, h.top, fun k v r hv hr => ?_, fun k v hv q hq => ?_, fun j k v u hne hv hu q hq => ?_⟩
  · have hn := hk hv
    obtain ⟨r1, r2, r3, r4⟩ := h.row k (hF k hn) hn
    rw [hv] at r1
    injection r1 with r1
    subst r1
    have er : R k = r := by simpa [hn] using hr
    subst er
    exact r4
  · have hn := hk hv
    obtain ⟨r1, r2, r3, r4⟩ := h.row k (hF k hn) hn
    rw [hv] at r1
    injection r1 with r1
    subst r1
    injection hq with hq
    dsimp only at hq
    intro e
    injection e with e
    dsimp only at e
    omega
  · have hn := hk hv
    have hm := hk hu
    obtain ⟨r1, _⟩ := h.row j (hF j hn) hn
    obtain ⟨s1, _⟩ := h.row k (hF k hm) hm
    rw [hv] at r1; injection r1 with r1; subst r1
    rw [hu] at s1; injection s1 with s1; subst s1
    injection hq with hq
    dsimp only at hq
    intro e
    injection e with e
    dsimp only at e
    exact h.two j k (hF j hn) (hF k hm) hn hm hne (by omega)
/-- What is read of a row that is done. -/
theorem Part.at_ {i j : Nat} {x : Int} (h : Part vs w base g n F R) (hi : F i) (hn : i < n) (hx : (R i)[j]? = some x) :
    w.cell? ⟨g, i, none⟩ = some (.slice (some ⟨hBlk vs i, 0, none⟩) (R i).length (R i).length) ∧ w.cell? ⟨hBlk vs i, j, none⟩ = some (.int .i64 x) := by
  obtain ⟨r1, r2, r3, r4⟩ := h.row i hi hn
  obtain ⟨b, eb, _, _, hc, _⟩ := h.top.at_ (by omega)
  injection eb with eb; injection eb with eb; subst eb
  have hj : j < (R i).length := (List.getElem?_eq_some_iff.1 hx).1
  obtain ⟨b2, eb2, _, _, hc2, _⟩ := r4.at_ (by omega)
  injection eb2 with eb2; injection eb2 with eb2
  have c1 := hc i _ 0 _ r1 rfl
  have c2 := hc2 j x 0 _ hx rfl
  simp only [Nat.mul_one, Nat.add_zero] at c1 c2
  rw [← eb2] at c2
  exact ⟨c1, c2⟩
end
end Go.Proofs.Ytpccbmndgdiloaa
/- Appending one record inside a region that draws its order. -/
namespace Go.Proofs.Ytpccbmndgdiloaa
set_option linter.unusedVariables false
set_option linter.unusedSimpArgs false
open Go.ChangeShapes Go.WideShapes Go.ChangeAt Go.RowKit Go.Deep
theorem Owned.drew {α : Type} {e : α → List Value} {s : Nat} {E : TypeId} {w : World} {base : Nat} {A : Option Addr} {n c : Nat} {l : List α} (h : Owned e s E w base A n c l) : Owned e s E w.drew base A n c l := h.up (Below.drew (Below.refl _ _))
theorem Box.drew {w : World} {b : Nat} {cs : List Value} (h : Box w b cs) : Box w.drew b cs := h
theorem step_append_rec {P : Program} {α : Type} {e : α → List Value} {s bytes : Nat} {t E : TypeId} {z : Value} (he : ElemOk P t E z s bytes) {ops : Array Oper} {o : Oper} {a : Act} {K : Act → World → Prop} {Q : Exit → Act → World → Prop} {E' : Prop} {W : World}
    (hgd : o.guard = none) (S X : Operand) (ho : o.op = .call { callee := .builtin .append, args := #[S, X], argTypes := #[t, t] })
    {base : Nat} {A : Option Addr} {n c : Nat} {l : List α} (hs : a.eval S = .slice A n c) (hown : Owned e s E W base A n c l) (x : α) {b cx : Nat} (hx : a.eval X = .slice (some ⟨b, 0, none⟩) 1 cx)
    (hnew : Box W b (e x)) (h1 : ∀ u ∈ e x, u.oneCell' = true) (hn : n ≤ 16777216) (hby : bytes ≤ 4096) (hbase : base ≤ W.heap.size)
    (h : ∀ A' c' w', Owned e s E w' base A' (n + 1) c' (l ++ [x]) → W.grownBy w' (Value.slice A n c).ownBlock → Below base W w' → K (a.put o.dst (.slice A' (n + 1) c')) w') :
    if Region.wanted o (yielded ops a.tmps) = true then Oper.wp P o a W K Q else E' := by
  obtain ⟨i0, hi, hz0, hz1, hz2⟩ := info_parts he.info
  refine step_append_lies W hgd S X t ho base E i0 z s bytes he.under hi hz0 hz1 hz2 he.zs he.pos _ n _ hs hown.2.2 ⟨b, 0, none⟩ 1 cx (e x) hx (by rw [hown.1]; omega)
    (fun j u hu => by rw [Go.WideShapes.add_plain, Nat.zero_add]; exact hnew j u hu) h1 (by omega) (by unfold maxLen; omega) ?_ hbase W.heap.size rfl ?_
  · exact Nat.le_trans (Nat.mul_le_mul (show n + 1 ≤ 16777217 by omega) hby) (by decide)
  · intro g cap w' hown' hg _ _
    have ho' : Owned e s E w' base (some ⟨g, 0, none⟩) (n + 1) cap (l ++ [x]) := ⟨hown.1, by simp [hown.2.1], by simpa using hown'⟩
    exact h _ _ w' ho' hg ((Below.refl _ _).grown hg hbase fun k hk => (hown.blk hk).1)
end Go.Proofs.Ytpccbmndgdiloaa
/- Appending many records at once, from wherever they are read; rows of rows. -/
namespace Go.Proofs.Ytpccbmndgdiloaa
set_option linter.unusedVariables false
set_option linter.unusedSimpArgs false
open Go.ChangeShapes Go.WideShapes Go.ChangeAt Go.RowKit Go.Deep
theorem flatMap_nil_of {α : Type} {e : α → List Value} {s : Nat} {l : List α} (h : l.length = 0) : l.flatMap e = [] := by
  rw [List.length_eq_zero_iff] at h
  subst h; rfl
theorem run_append_recs {P : Program} {α : Type} {e : α → List Value} {s bytes : Nat} {t E : TypeId} {z : Value} (he : ElemOk P t E z s bytes) (h1 : ∀ x, ∀ u ∈ e x, u.oneCell' = true) {W : World} {base : Nat} {A : Option Addr} {n c : Nat} {l : List α} (hown : Owned e s E W base A n c l)
    {B : Option Addr} {m d : Nat} {l2 : List α} (hr : Recs e s W B l2) (hm : l2.length = m) (hn : n + m ≤ 16777216) (hby : bytes ≤ 4096) (hbase : base ≤ W.heap.size) (ty : TypeId) :
    ∃ A' c' w', (Builtin.append_ #[t, t] ty #[.slice A n c, .slice B m d]).run P W = .ok (.slice A' (n + m) c') w' ∧ Owned e s E w' base A' (n + m) c' (l ++ l2) ∧ W.grownBy w' (Value.slice A n c).ownBlock ∧
      (∀ k, (Value.slice A' (n + m) c').ownBlock = some k → (Value.slice A n c).ownBlock = some k ∨ W.heap.size ≤ k) := by
  obtain ⟨i0, hi, hz0, hz1, hz2⟩ := info_parts he.info
  subst hm
  rcases B with _ | ad
  · have hm : l2.length = 0 := by
      rcases Nat.eq_zero_or_pos l2.length with h | h
      · exact h
      · obtain ⟨b, o, e1, _⟩ := hr.2.2 h
        cases e1
    have e2 : l2 = [] := List.eq_nil_of_length_eq_zero hm
    subst e2
    refine ⟨A, c, W, ?_, by simpa using hown, World.grownBy.refl W _, fun k hk => .inl hk⟩
    rcases hown.2.2.2 with ⟨hv, h0⟩ | ⟨g, cap, cur, hv, _, _, hnc, _⟩
    · injection hv with a1 a2 a3
      subst a1 a2 a3
      simp [Builtin.append_, run_underlying he.under, sizeOf, typeInfo, hi, Builtin.lenOf, Builtin.firstCells]
    · injection hv with a1 a2 a3
      subst a1 a3
      simp [Builtin.append_, run_underlying he.under, sizeOf, typeInfo, hi, Builtin.lenOf, Builtin.firstCells, hnc, storeCells]
  · have hcells : ∀ j u, (l2.flatMap e)[j]? = some u → W.cell? (ad.add j) = some u := by
      intro j u hu
      rcases Nat.eq_zero_or_pos l2.length with h0 | h0
      · rw [flatMap_nil_of (e := e) (s := s) h0] at hu; simp at hu
      · obtain ⟨b, o, e1, _, hc⟩ := hr.2.2 h0
        injection e1 with e1
        subst e1
        rw [Go.WideShapes.add_plain]
        exact hc j u hu
    obtain ⟨v', w', hrun, h2, h3, _, h5⟩ := run_append_own_at (P := P) W base t ty E i0 z s bytes he.under hi hz0 hz1 hz2 he.zs he.pos _ n _ hown.2.2 ad l2.length d (l2.flatMap e) (flatMap_len hown.1 l2) hcells
      (fun u hu => by obtain ⟨x, _, hx⟩ := List.mem_flatMap.1 hu; exact h1 x u hx) (by unfold maxLen; omega) (Nat.le_trans (Nat.mul_le_mul hn hby) (by decide)) hbase
    obtain ⟨A', c', rfl, ho⟩ := Owned.of_row (l := l ++ l2) hown.1 h2 (by simp) (by rw [List.length_append, hown.2.1])
    refine ⟨A', c', w', hrun, ho, h3, fun k hk => ?_⟩
    rcases h5 with h5 | h5
    · exact .inl (by rw [← h5]; exact hk)
    · right
      rw [h5] at hk
      injection hk with hk
      omega
theorem wp_append_recs {P : Program} {α : Type} {e : α → List Value} {s bytes : Nat} {t E : TypeId} {z : Value} (he : ElemOk P t E z s bytes) (h1 : ∀ x, ∀ u ∈ e x, u.oneCell' = true) {o : Oper} {a : Act} {K : Act → World → Prop} {Q : Exit → Act → World → Prop} {W : World}
    (S X : Operand) (ho : o.op = .call { callee := .builtin .append, args := #[S, X], argTypes := #[t, t] })
    {base : Nat} {A : Option Addr} {n c : Nat} {l : List α} (hs : a.eval S = .slice A n c) (hown : Owned e s E W base A n c l) {B : Option Addr} {m d : Nat} {l2 : List α} (hx : a.eval X = .slice B m d) (hr : Recs e s W B l2) (hm : l2.length = m)
    (hn : n + m ≤ 16777216) (hby : bytes ≤ 4096) (hbase : base ≤ W.heap.size)
    (h : ∀ A' c' w', Owned e s E w' base A' (n + m) c' (l ++ l2) → W.grownBy w' (Value.slice A n c).ownBlock → (∀ k, (Value.slice A' (n + m) c').ownBlock = some k → (Value.slice A n c).ownBlock = some k ∨ W.heap.size ≤ k) → K (a.put o.dst (.slice A' (n + m) c')) w') : o.wp P a W K Q := by
  obtain ⟨A', c', w', hrun, h2, h3, h4⟩ := run_append_recs he h1 hown hr hm hn hby hbase o.type
  unfold Oper.wp execOp
  simp only [ho, resolve, invoke, builtin, Sem.run_bind, Sem.run_pure, Result.andThen_ok, List.map_toArray, List.map_cons, List.map_nil, hs, hx]
  rw [hrun]
  exact h A' c' w' h2 h3 h4
/-- 'append(xs, ys...)' onto a row of the call's own. -/
theorem wpList_append_recs {P : Program} {α : Type} {e : α → List Value} {s bytes : Nat} {t E : TypeId} {z : Value} (he : ElemOk P t E z s bytes) (h1 : ∀ x, ∀ u ∈ e x, u.oneCell' = true) {ops : Array Oper} {rest : List Oper} {o : Oper} {a : Act} {Q : Exit → Act → World → Prop} {W : World}
    (hgd : o.guard = none) (S X : Operand) (ho : o.op = .call { callee := .builtin .append, args := #[S, X], argTypes := #[t, t] })
    {base : Nat} {A : Option Addr} {n c : Nat} {l : List α} (hs : a.eval S = .slice A n c) (hown : Owned e s E W base A n c l) {B : Option Addr} {m d : Nat} {l2 : List α} (hx : a.eval X = .slice B m d) (hr : Recs e s W B l2) (hm : l2.length = m)
    (hn : n + m ≤ 16777216) (hby : bytes ≤ 4096) (hbase : base ≤ W.heap.size)
    (h : ∀ A' c' w', Owned e s E w' base A' (n + m) c' (l ++ l2) → W.grownBy w' (Value.slice A n c).ownBlock → (∀ k, (Value.slice A' (n + m) c').ownBlock = some k → (Value.slice A n c).ownBlock = some k ∨ W.heap.size ≤ k) → wpList P ops Q rest (a.put o.dst (.slice A' (n + m) c')) w') :
    wpList P ops Q (o :: rest) a W :=
  wpList_plain hgd fun _ hK => wp_append_recs he h1 S X ho hs hown hx hr hm hn hby hbase fun A' c' w' h2 h3 h4 => hK _ _ (h A' c' w' h2 h3 h4)
theorem step_append_recs {P : Program} {α : Type} {e : α → List Value} {s bytes : Nat} {t E : TypeId} {z : Value} (he : ElemOk P t E z s bytes) (h1 : ∀ x, ∀ u ∈ e x, u.oneCell' = true) {ops : Array Oper} {o : Oper} {a : Act} {K : Act → World → Prop} {Q : Exit → Act → World → Prop} {E' : Prop} {W : World}
    (hgd : o.guard = none) (S X : Operand) (ho : o.op = .call { callee := .builtin .append, args := #[S, X], argTypes := #[t, t] })
    {base : Nat} {A : Option Addr} {n c : Nat} {l : List α} (hs : a.eval S = .slice A n c) (hown : Owned e s E W base A n c l) {B : Option Addr} {m d : Nat} {l2 : List α} (hx : a.eval X = .slice B m d) (hr : Recs e s W B l2) (hm : l2.length = m)
    (hn : n + m ≤ 16777216) (hby : bytes ≤ 4096) (hbase : base ≤ W.heap.size)
    (h : ∀ A' c' w', Owned e s E w' base A' (n + m) c' (l ++ l2) → W.grownBy w' (Value.slice A n c).ownBlock → (∀ k, (Value.slice A' (n + m) c').ownBlock = some k → (Value.slice A n c).ownBlock = some k ∨ W.heap.size ≤ k) → K (a.put o.dst (.slice A' (n + m) c')) w') :
    if Region.wanted o (yielded ops a.tmps) = true then Oper.wp P o a W K Q else E' := by
  have hw : Region.wanted o (yielded ops a.tmps) = true := by simp [Region.wanted, hgd]
  rw [if_pos hw]
  exact wp_append_recs he h1 S X ho hs hown hx hr hm hn hby hbase h
theorem grown_base {w w' : World} {v : Value} {base : Nat} (hg : w.grownBy w' v.ownBlock) (hb : base ≤ w.heap.size) (hr : ∀ k, v.ownBlock = some k → base ≤ k) : Below base w w' := (Below.refl _ _).grown hg hb fun k hk => hr k hk
theorem lit_app {w w' : World} {o : Obj} {n c : Nat} (hg : (w.alloc o).grownBy w' (Value.slice (some ⟨w.heap.size, 0, none⟩) n c).ownBlock) : Below w.heap.size w w' :=
  ((Below.refl _ _).alloc (Nat.le_refl _) _).trans (grown_base hg (by simp) (fun k hk => by injection hk with hk; dsimp only at hk; omega))
theorem Recs.alloc {α : Type} {e : α → List Value} {s : Nat} {w : World} {A : Option Addr} {l : List α} (h : Recs e s w A l) (o : Obj) : Recs e s (w.alloc o) A l := h.up ((Below.refl _ _).alloc (Nat.le_refl _) o)
/-- Two rows of different element types lie in different blocks. -/
theorem Owned.ne {α β : Type} {e : α → List Value} {s : Nat} {E : TypeId} {e' : β → List Value} {s' : Nat} {E' : TypeId} {w : World} {base base' : Nat} {A B : Option Addr} {n c m d : Nat} {l : List α} {l' : List β}
    (h : Owned e s E w base A n c l) (h' : Owned e' s' E' w base' B m d l') (hE : E ≠ E') : ∀ k, (Value.slice A n c).ownBlock = some k → (Value.slice B m d).ownBlock ≠ some k := by
  intro k hk hk'
  rcases h.2.2.2 with ⟨hv, _⟩ | ⟨g, cap, cur, hv, _, hh, _⟩
  · rw [hv] at hk; cases hk
  · rcases h'.2.2.2 with ⟨hv', _⟩ | ⟨g', cap', cur', hv', _, hh', _⟩
    · rw [hv'] at hk'; cases hk'
    · rw [hv] at hk; rw [hv'] at hk'
      injection hk with hk; injection hk' with hk'
      dsimp only at hk hk'
      subst hk; subst hk'
      rw [hh] at hh'
      injection hh' with hh'
      injection hh' with _ e2 _
      exact hE e2
/-- A list of rows of the call's own: the heads' row, and each head's row. -/
structure LT {α : Type} (e : α → List Value) (s : Nat) (E F : TypeId) (vs : List Hd) (w : World) (base : Nat) (A : Option Addr) (n c : Nat) (T : List (List α)) : Prop where
  len : T.length = n
  top : Owned slcE 1 F w base A n c vs
  row : ∀ (k : Nat) (v : Hd) (r : List α), vs[k]? = some v → T[k]? = some r → Owned e s E w base v.1 v.2.1 v.2.2 r
section
variable {α : Type} {e : α → List Value} {s : Nat} {E F : TypeId} {vs us : List Hd} {w w' : World} {base : Nat} {A : Option Addr} {n c : Nat} {T : List (List α)}
theorem LT.nil (w : World) (base : Nat) : LT e s E F [] w base none 0 0 ([] : List (List α)) := ⟨rfl, Owned.nil slcE_len _ _ _, fun k v r hv _ => by simp at hv⟩
theorem LT.up (h : LT e s E F vs w base A n c T) (hb : Below w.heap.size w w') : LT e s E F vs w' base A n c T := ⟨h.len, h.top.up hb, fun k v r hv hr => (h.row k v r hv hr).up hb⟩
theorem LT.base_le {base' : Nat} (h : LT e s E F vs w base A n c T) (hb : base' ≤ base) : LT e s E F vs w base' A n c T := ⟨h.len, h.top.base_le hb, fun k v r hv hr => (h.row k v r hv hr).base_le hb⟩
theorem LT.alloc (h : LT e s E F vs w base A n c T) (o : Obj) : LT e s E F vs (w.alloc o) base A n c T := h.up ((Below.refl _ _).alloc (Nat.le_refl _) o)
theorem LT.vlen (h : LT e s E F vs w base A n c T) : vs.length = T.length := by rw [h.top.len, h.len]
/-- One head is appended. -/
theorem LT.add {A' : Option Addr} {c' : Nat} {v : Hd} {r : List α} (h : LT e s E F vs w base A n c T) (hEF : E ≠ F) (hr : Owned e s E w base v.1 v.2.1 v.2.2 r) (ho : Owned slcE 1 F w' base A' (n + 1) c' (vs ++ [v])) (hg : w.grownBy w' (Value.slice A n c).ownBlock) :
    LT e s E F (vs ++ [v]) w' base A' (n + 1) c' (T ++ [r]) := by
  have hne : ∀ {v : Hd} {r : List α}, Owned e s E w base v.1 v.2.1 v.2.2 r → Owned e s E w' base v.1 v.2.1 v.2.2 r := fun hq => hq.kept hg fun k hk e2 => hq.ne h.top hEF k hk e2
  refine ⟨by rw [List.length_append, h.len]; rfl, ho, fun k u q hu hq => ?_⟩
  rw [List.getElem?_append] at hu hq
  by_cases hk : k < vs.length
  · rw [if_pos hk] at hu
    rw [if_pos (by rw [← h.vlen]; exact hk)] at hq
    exact hne (h.row k u q hu hq)
  · rw [if_neg hk] at hu
    rw [if_neg (by rw [← h.vlen]; exact hk)] at hq
    have hk0 : k - vs.length = 0 := by
      have := (List.getElem?_eq_some_iff.1 hu).1
      simp at this; omega
    rw [hk0] at hu
    rw [← h.vlen, hk0] at hq
    simp at hu hq
    subst hu hq
    exact hne hr
/-- The heads of another list are appended. -/
theorem LT.join {A' B : Option Addr} {c' m d : Nat} {T' : List (List α)} (h : LT e s E F vs w base A n c T) (hEF : E ≠ F) (h' : LT e s E F us w base B m d T') (ho : Owned slcE 1 F w' base A' (n + m) c' (vs ++ us)) (hg : w.grownBy w' (Value.slice A n c).ownBlock) :
    LT e s E F (vs ++ us) w' base A' (n + m) c' (T ++ T') := by
  have hne : ∀ {v : Hd} {r : List α}, Owned e s E w base v.1 v.2.1 v.2.2 r → Owned e s E w' base v.1 v.2.1 v.2.2 r := fun hq => hq.kept hg fun k hk e2 => hq.ne h.top hEF k hk e2
  refine ⟨by rw [List.length_append, h.len, h'.len], ho, fun k u q hu hq => ?_⟩
  rw [List.getElem?_append] at hu hq
  by_cases hk : k < vs.length
  · rw [if_pos hk] at hu
    rw [if_pos (by rw [← h.vlen]; exact hk)] at hq
    exact hne (h.row k u q hu hq)
  · rw [if_neg hk] at hu
    rw [if_neg (by rw [← h.vlen]; exact hk)] at hq
    rw [← h.vlen] at hq
    exact hne (h'.row _ u q hu hq)
/-- Row k, as it is read. -/
theorem LT.at_ (h : LT e s E F vs w base A n c T) {k : Nat} (hk : k < n) : ∃ b off v r, A = some ⟨b, off, none⟩ ∧ b < w.heap.size ∧ T[k]? = some r ∧ vs[k]? = some v ∧ w.cell? ⟨b, off + k, none⟩ = some (.slice v.1 r.length v.2.2) ∧ Owned e s E w base v.1 r.length v.2.2 r := by
  obtain ⟨b, off, v, hA, hb, hv, hc⟩ := h.top.recs.at_slc (k := k) (by rw [h.top.len]; exact hk)
  obtain ⟨r, hr⟩ := some_of_lt (l := T) (k := k) (by rw [h.len]; exact hk)
  have ho := h.row k v r hv hr
  have hl := ho.len
  rw [← hl] at ho hc
  exact ⟨b, off, v, r, hA, hb, hr, hv, hc, ho⟩
end
end Go.Proofs.Ytpccbmndgdiloaa
/- The walks through the reference's sort of texts, and its search for repeats. -/
namespace Go.Proofs.Ytpccbmndgdiloaa
set_option linter.unusedVariables false
set_option linter.unusedSimpArgs false
open Go.ChangeShapes Go.WideShapes Go.ChangeAt Go.RowKit Go.Deep
/-- A part of a row. -/
theorem Recs.part {α : Type} {e : α → List Value} {s : Nat} {w : World} {b o : Nat} {l : List α} (h : Recs e s w (some ⟨b, o, none⟩) l) (i j : Nat) (hij : i ≤ j) (hj : j ≤ l.length) : Recs e s w (some ⟨b, o + i * s, none⟩) ((l.drop i).take (j - i)) := by
  refine ⟨h.1, by rw [flatMap_len h.1], fun hn => ?_⟩
  have hlen : ((l.drop i).take (j - i)).length = j - i := by rw [List.length_take, List.length_drop]; omega
  obtain ⟨b', o', e1, hb, hc⟩ := h.cells (by omega)
  injection e1 with e1
  injection e1 with e1 e2
  subst e1 e2
  refine ⟨b, o + i * s, rfl, hb, fun q u hu => ?_⟩
  have hq := (List.getElem?_eq_some_iff.1 hu).1
  rw [flatMap_len h.1, hlen] at hq
  have hs : 0 < s := by
    rcases Nat.eq_zero_or_pos s with h0 | h0
    · subst h0; omega
    · exact h0
  have hdm : q / s * s + q % s = q := Nat.div_add_mod' q s
  have hqs : q / s < j - i := Nat.div_lt_of_lt_mul (by rw [Nat.mul_comm]; exact hq)
  obtain ⟨x, hx⟩ := some_of_lt (l := (l.drop i).take (j - i)) (k := q / s) (by omega)
  have a1 := flatMap_at h.1 _ (q / s) x (q % s) hx (Nat.mod_lt q hs)
  rw [hdm, hu] at a1
  have hx2 : l[i + q / s]? = some x := by
    rw [List.getElem?_take, if_pos hqs, List.getElem?_drop] at hx; exact hx
  have := hc (i + q / s) x (q % s) u hx2 a1.symm
  rw [show o + i * s + q = o + (i + q / s) * s + q % s by rw [Nat.add_mul]; omega]
  exact this
theorem Owned.cap {α : Type} {e : α → List Value} {s : Nat} {E : TypeId} {w : World} {base : Nat} {A : Option Addr} {n c : Nat} {l : List α} (h : Owned e s E w base A n c l) : n ≤ c ∧ c ≤ 9223372036854775807 := by
  rcases h.2.2.2 with ⟨hv, h0⟩ | ⟨g, cap, cur, hv, _, _, hnc, hcap, _, _⟩
  · injection hv with _ _ e3
    subst e3 h0
    exact ⟨Nat.le_refl _, by omega⟩
  · injection hv with _ _ e3
    subst e3
    exact ⟨hnc, by unfold maxLen at hcap; omega⟩
theorem spec_l1OwnS {A : Option Addr} {N c : Nat} {l : List ByteArray} {w : World} (hN : l.length = N) (h : Strs w A l) (hz : N ≤ 16000000) :
    Calls Try.prog 109 #[.slice A N c] w fun e w' => ∃ A' c', e = .returned (.slice A' N c') ∧ Owned strE 1 9 w' w.heap.size A' N c' l ∧ Below w.heap.size w w' := by
  go_in
  go_wp2_with (first | (at_builtin; go_must ((refine wpList_append_recs Try.elStr strE_one rfl (.tmp 3) (.tmp 4) rfl rfl (Owned.empty (E := 9) strE_len w (Nat.le_refl _)) rfl (h.up (by (repeat' (first | (with_reducible exact Below.refl _ _) | (with_reducible assumption) | (with_reducible refine below_drewN ?_ _) | (with_reducible refine Below.drew ?_) | (with_reducible refine below_alloc ?_ _) | (with_reducible refine Below.alloc ?_ ?_ _) | (with_reducible refine Below.setCell ?_ ?_ _) | (with_reducible refine below_go ?_ (by with_reducible assumption)) | (with_reducible refine below_then (by with_reducible assumption) ?_ ?_) | go_size)))) hN ?_ (by decide) ?_ ?_; (focus (first | omega | (simp only [World.size_alloc]; done) | (simp only [World.size_alloc]; omega) | (simp; done) | (simp; omega))); (focus (first | omega | (simp only [World.size_alloc]; done) | (simp only [World.size_alloc]; omega) | (simp; done) | (simp; omega))); intro A2 c2 w2 ho2 hg2 hl2))))
  go_ret
  have hb := lit_app hg2
  rw [Nat.zero_add, List.nil_append] at ho2
  exact ⟨_, _, rfl, ho2, hb⟩
/-- Where x[1:] begins. -/
def tailOff (o s c : Nat) : Nat := if c = 1 then o else o + s
theorem Try.tailStrs (b o n c : Nat) (h1 : 1 ≤ n) (u : World) : (Instr.slice 24 (.slice (some ⟨b, o, none⟩) n c) (some (.int .i64 1)) none none).run Try.prog u = .ok (.slice (some ⟨b, tailOff o 1 c, none⟩) (n - 1) (c - 1)) u := by
  have e1 : Try.prog.underlying 24 = some (.slice (Try.prog.elem 24)) := by kernel_rfl
  have e2 : (sizeOf (Try.prog.elem 24)).run Try.prog u = .ok 1 u := by kernel_rfl
  rw [run_slice_l (P := Try.prog) (w := u) 24 (some ⟨b, o, none⟩) n c e1 .i64 1 (by omega) (by omega), e2]
  simp only [Result.andThen_ok, sliced, tailOff]
  by_cases hc : c = 1
  · rw [if_pos hc, if_pos (by omega)]; rfl
  · rw [if_neg hc, if_neg (by omega)]; rfl
theorem Recs.tail {α : Type} {e : α → List Value} {s : Nat} {w : World} {b o n c : Nat} {x : α} {l : List α} (h : Recs e s w (some ⟨b, o, none⟩) (x :: l)) (hn : l.length + 1 = n) (hc : n ≤ c) : Recs e s w (some ⟨b, tailOff o s c, none⟩) l := by
  by_cases h1 : c = 1
  · have : l = [] := List.eq_nil_of_length_eq_zero (by omega)
    subst this
    exact ⟨h.1, Rd.none_ _ _ _⟩
  · rw [tailOff, if_neg h1]
    have := h.part 1 (l.length + 1) (by omega) (by simp)
    rw [Nat.one_mul, List.drop_succ_cons, List.drop_zero, Nat.add_sub_cancel, List.take_of_length_le (Nat.le_refl _)] at this
    exact this
def slLen : Value → Nat
  | .slice _ n _ => n
  | _ => 0
theorem merge_left {x y : ByteArray} {a b : List ByteArray} (h : less y x = false) : List.merge (x :: a) (y :: b) leS = x :: List.merge a (y :: b) leS := by
  rw [List.cons_merge_cons_pos leS a b (by simp [leS, h])]
theorem merge_right {x y : ByteArray} {a b : List ByteArray} (h : less y x = true) : List.merge (x :: a) (y :: b) leS = y :: List.merge (x :: a) b leS := by
  rw [List.cons_merge_cons_neg leS a b (by simp [leS, h])]
set_option maxHeartbeats 2000000 in
set_option maxRecDepth 100000 in
theorem spec_l6Sort : ∀ (N : Nat) (A : Option Addr) (c : Nat) (l : List ByteArray) (w : World), l.length = N → Strs w A l → N ≤ 16000000 → (∀ s ∈ l, s.size ≤ 16777216) →
    Calls Try.prog 86 #[.slice A N c] w fun e w' => ∃ A' c' L, e = .returned (.slice A' N c') ∧ Owned strE 1 9 w' w.heap.size A' N c' L ∧ L.Perm l ∧ Srt L ∧ Below w.heap.size w w' := by
  intro N
  induction N using Nat.strongRecOn with
  | ind N ih =>
    intro A c l w hN h hz hs
    have HS := Lib.hid hs
    have IH := Lib.hid ih
    clear hs ih
    by_cases h2 : N < 2
    · have hsrt : Srt l := by
        match l, hN with
        | [], _ => exact List.Pairwise.nil
        | [x], _ => exact List.pairwise_singleton _ _
        | x :: y :: r, e => simp at e; omega
      go_in
      go_wp2_with fail
      refine (spec_l1OwnS hN h hz).mono ?_; rintro e w1 ⟨A1, c1, rfl, ho, hb1⟩
      go_wp2
      go_ret
      exact ⟨_, _, l, rfl, ho, List.Perm.refl _, hsrt, hb1⟩
    · subst hN
      obtain ⟨m, hm⟩ : ∃ m, m = l.length / 2 := ⟨_, rfl⟩
      have hm1 : 1 ≤ m := by omega
      have hm2 : m < l.length := by omega
      go_in
      go_wp2_with fail
      refine (spec_l1OwnS rfl h hz).mono ?_; rintro e w1 ⟨A1, c1, rfl, ho, hb1⟩
      obtain ⟨g, rfl, g0, g1, _, _⟩ := ho.at_ (by omega)
      go_wp2
      have hR := ho.recs
      have R1 : Hid (Strs w1.drew (some ⟨g, 0, none⟩) (l.take m)) := Lib.hid (by have := (hR.part 0 m (Nat.zero_le _) (by omega)).drew; simpa using this)
      have R2 : Hid (Strs w1 (some ⟨g, m, none⟩) (l.drop m)) := Lib.hid (by have := hR.part m l.length (by omega) (Nat.le_refl _); rw [Nat.mul_one, Nat.zero_add, List.take_of_length_le (by rw [List.length_drop]; omega)] at this; exact this)
      have T1 := Lib.hid (show (l.take m).length = m by rw [List.length_take]; omega)
      have T2 := Lib.hid (show (l.drop m).length = l.length - m by rw [List.length_drop])
      have hq : ((l.length : Int)).tdiv 2 = (m : Int) := by rw [Int.tdiv_eq_ediv_of_nonneg (by omega)]; omega
      have hw : IntKind.i64.wrap (m : Int) = (m : Int) := wrap_id (by omega)
      obtain ⟨hc1, hc2⟩ := ho.cap
      have hw2 : wrap64 (m : Int) = (m : Int) := by unfold wrap64; omega
      have hq2 : (l.length : Int) / 2 = (m : Int) := by omega
      have hle1 : (m : Int) ≤ (c1 : Int) := by omega
      have hle2 : (m : Int) ≤ (l.length : Int) := by omega
      have hle3 : (l.length : Int) ≤ (c1 : Int) := by omega
      have hne : ¬ c1 = m := by omega
      have hne2 : ¬ c1 - m = 0 := by omega
      clear hm
      go_region_held3 (fun u => True) (first | trivial) (first | (go_at_call 86; ((with_reducible refine (IH.out (l.length - m) (by omega) (some ⟨g, m, none⟩) (c1 - m) (l.drop m) _ T2.out (R2.out.up hb2) (by omega) (fun s hs => HS.out s (List.mem_of_mem_drop hs))).mono ?_); rintro e w3 ⟨A3, c3, L3, rfl, o3, p3, s3, hb3⟩)) | (go_at_call 86; refine (IH.out m (by omega) (some ⟨g, 0, none⟩) c1 (l.take m) _ T1.out R1.out (by omega) (fun s hs => HS.out s (List.mem_of_mem_take hs))).mono ?_; rintro e w2 ⟨A2, c2, L2, rfl, o2, p2, s2, hbd2⟩; have hb2 := below_of_drew hbd2))
      clear hw hw2 hq hq2
      have HM := Lib.hid (show (List.merge L2 L3 leS).Perm l from (merge_perm L2 L3).trans ((p2.append p3).trans (by rw [List.take_append_drop])))
      have HR := Lib.hid (merge_srt s2 s3)
      have o2' := o2.up hb3
      obtain ⟨c21, c22⟩ := o2.cap
      obtain ⟨c31, c32⟩ := o3.cap
      have hB3 := (below_go hb1 hb2)
      have hB3 := below_go hB3 hb3
      clear hbd2 p2 p3 s2 s3
      go_wp2
      go_loopw [4, 5, 6] (fun va vb vc wr => ∃ (Aa : Option Addr) (na ca : Nat) (la : List ByteArray) (Ab : Option Addr) (nb cb : Nat) (lb : List ByteArray) (A' : Option Addr) (m' c' : Nat) (M : List ByteArray), va = .slice Aa na ca ∧ vb = .slice Ab nb cb ∧ vc = .slice A' m' c' ∧ na ≤ ca ∧ nb ≤ cb ∧ ca ≤ 9223372036854775807 ∧ cb ≤ 9223372036854775807 ∧ m' + na + nb = l.length ∧ Hid (la.length = na) ∧ Hid (lb.length = nb) ∧ Hid (Strs w3 Aa la) ∧ Hid (Strs w3 Ab lb) ∧ Hid (Owned strE 1 9 wr w3.heap.size A' m' c' M) ∧ Hid (M ++ List.merge la lb leS = List.merge L2 L3 leS) ∧ Below w3.heap.size w3 wr) (fun va vb _ _ => slLen va + slLen vb)
      case atStart => exact ⟨_, m, c2, L2, _, l.length - m, c3, L3, none, 0, 0, [], rfl, rfl, rfl, by omega, by omega, by omega, by omega, by omega, Lib.hid o2.len, Lib.hid o3.len, Lib.hid o2'.recs, Lib.hid o3.recs, Lib.hid (Owned.nil strE_len _ _ _), Lib.hid (by simp), Below.refl _ _⟩
      case round =>
        obtain ⟨Aa, na, ca, la, Ab, nb, cb, lb, A', m', c', M, rfl, rfl, rfl, hna, hnb, hca, hcb, hsum, HLa, HLb, HA, HB, HO, HQ, hb⟩ := hrel
        have hsz := hb.size
        by_cases ha0 : na = 0
        · have HF := Lib.hid (show M ++ la ++ lb = List.merge L2 L3 leS by
            have : la = [] := List.eq_nil_of_length_eq_zero (by rw [HLa.out]; exact ha0)
            rw [← HQ.out, this, List.append_nil]; simp)
          have HS2 := Lib.hid hsum
          have hbd : m' + na + nb ≤ 16000000 := by omega
          have hI : ¬ (0 : Int) < (na : Int) := by omega
          clear ha0 hsum
          go_wp2_with (first | (at_builtin; ((refine wpList_append_recs Try.elStr strE_one rfl (.tmp 56) (.tmp 57) rfl rfl HO.out rfl (HA.out.below hb (Nat.le_refl _)) HLa.out ?_ (by decide) ?_ ?_; (focus (first | omega | (simp only [World.size_alloc]; done) | (simp only [World.size_alloc]; omega) | (simp; done) | (simp; omega))); (focus (first | omega | (simp only [World.size_alloc]; done) | (simp only [World.size_alloc]; omega) | (simp; done) | (simp; omega))); intro A4 c4 w4 ho4 hg4 hl4; have hb4 := hb.trans (grown_base hg4 hsz (fun k hk => (HO.out.blk hk).1)); have hsz4 := hb4.size))) | (at_builtin; go_must ((refine wpList_append_recs Try.elStr strE_one rfl (.tmp 58) (.tmp 59) rfl rfl ho4 rfl (HB.out.below hb4 (Nat.le_refl _)) HLb.out ?_ (by decide) ?_ ?_; (focus (first | omega | (simp only [World.size_alloc]; done) | (simp only [World.size_alloc]; omega) | (simp; done) | (simp; omega))); (focus (first | omega | (simp only [World.size_alloc]; done) | (simp only [World.size_alloc]; omega) | (simp; done) | (simp; omega))); intro A5 c5 w5 ho5 hg5 hl5))))
          have hb5 := hb4.trans (grown_base hg5 hsz4 (fun k hk => (ho4.blk hk).1))
          go_ret
          rw [HF.out, HS2.out] at ho5
          rw [HS2.out]
          exact ⟨_, _, rfl, _, ho5.base_le hB3.size, HM.out, HR.out, below_go hB3 hb5⟩
        · by_cases hb0 : nb = 0
          · have HF := Lib.hid (show M ++ la ++ lb = List.merge L2 L3 leS by
              have : lb = [] := List.eq_nil_of_length_eq_zero (by rw [HLb.out]; exact hb0)
              rw [← HQ.out, this, List.append_nil]; simp)
            have HS2 := Lib.hid hsum
            have hbd : m' + na + nb ≤ 16000000 := by omega
            have hI : (0 : Int) < (na : Int) := by omega
            have hJ : ¬ (0 : Int) < (nb : Int) := by omega
            clear ha0 hb0 hsum
            go_wp2_with (first | (at_builtin; ((refine wpList_append_recs Try.elStr strE_one rfl (.tmp 56) (.tmp 57) rfl rfl HO.out rfl (HA.out.below hb (Nat.le_refl _)) HLa.out ?_ (by decide) ?_ ?_; (focus (first | omega | (simp only [World.size_alloc]; done) | (simp only [World.size_alloc]; omega) | (simp; done) | (simp; omega))); (focus (first | omega | (simp only [World.size_alloc]; done) | (simp only [World.size_alloc]; omega) | (simp; done) | (simp; omega))); intro A4 c4 w4 ho4 hg4 hl4; have hb4 := hb.trans (grown_base hg4 hsz (fun k hk => (HO.out.blk hk).1)); have hsz4 := hb4.size))) | (at_builtin; go_must ((refine wpList_append_recs Try.elStr strE_one rfl (.tmp 58) (.tmp 59) rfl rfl ho4 rfl (HB.out.below hb4 (Nat.le_refl _)) HLb.out ?_ (by decide) ?_ ?_; (focus (first | omega | (simp only [World.size_alloc]; done) | (simp only [World.size_alloc]; omega) | (simp; done) | (simp; omega))); (focus (first | omega | (simp only [World.size_alloc]; done) | (simp only [World.size_alloc]; omega) | (simp; done) | (simp; omega))); intro A5 c5 w5 ho5 hg5 hl5))))
            have hb5 := hb4.trans (grown_base hg5 hsz4 (fun k hk => (ho4.blk hk).1))
            go_ret
            rw [HF.out, HS2.out] at ho5
            rw [HS2.out]
            exact ⟨_, _, rfl, _, ho5.base_le hB3.size, HM.out, HR.out, below_go hB3 hb5⟩
          · obtain ⟨x, la', hla⟩ : ∃ x la', la = x :: la' := by
              rcases la with _ | ⟨x, la'⟩
              · exact absurd HLa.out.symm ha0
              · exact ⟨x, la', rfl⟩
            obtain ⟨y, lb', hlb⟩ : ∃ y lb', lb = y :: lb' := by
              rcases lb with _ | ⟨y, lb'⟩
              · exact absurd HLb.out.symm hb0
              · exact ⟨y, lb', rfl⟩
            subst hla hlb
            obtain ⟨b1, o1, _, rfl, bb1, hx, hcx⟩ := (HA.out.below hb (Nat.le_refl _)).at_str (k := 0) (by simp)
            obtain ⟨b2, o2, _, rfl, bb2, hy, hcy⟩ := (HB.out.below hb (Nat.le_refl _)).at_str (k := 0) (by simp)
            simp at hx hy
            subst hx hy
            simp only [Nat.add_zero] at hcx hcy
            have t1 := Try.tailStrs b1 o1 na ca (by omega)
            have t2 := Try.tailStrs b2 o2 nb cb (by omega)
            rcases hl : less y x
            · have hl1 : Op.bytesLess y.toList x.toList = false := hl
              have hq1 := Lib.hid (merge_left (a := la') (b := lb') hl)
              clear hl t2
              go_wp2
              go_quiet (fail)
              go_wp2_with (first | (at_builtin; go_must ((refine wpList_append_rec Try.elStr rfl (.tmp 48) (.tmp 52) rfl rfl ((HO.out.drewN _).alloc _) x rfl (Box.at_ _ [.string x] _ ?_) (strE_one _) ?_ (by decide) ?_ ?_; (focus (first | omega | (simp only [World.size_alloc]; done) | (simp only [World.size_alloc]; omega) | (simp; done) | (simp; omega))); (focus (first | omega | (simp only [World.size_alloc]; done) | (simp only [World.size_alloc]; omega) | (simp; done) | (simp; omega))); (focus (first | omega | (simp only [World.size_alloc]; done) | (simp only [World.size_alloc]; omega) | (simp; done) | (simp; omega))); intro A4 c4 w4 ho4 hg4 hb4))))
              go_roundw
              case rel => exact ⟨some ⟨b1, tailOff o1 1 ca, none⟩, na - 1, ca - 1, la', some ⟨b2, o2, none⟩, nb, cb, y :: lb', A4, m' + 1, c4, M ++ [x], rfl, rfl, rfl, by omega, by omega, by omega, by omega, by omega, Lib.hid (by have := HLa.out; simp at this; omega), HLb, Lib.hid (HA.out.tail (by have := HLa.out; simpa using this) hna), HB, Lib.hid ho4, Lib.hid (by rw [← HQ.out, hq1.out, List.append_assoc]; rfl), ((below_drewN hb _).alloc (by simp; omega) _).trans hb4⟩
              case measure => simp [slLen]; omega
            · have hl1 : Op.bytesLess y.toList x.toList = true := hl
              have hq1 := Lib.hid (merge_right (a := la') (b := lb') hl)
              clear hl t1
              go_wp2
              go_quiet (fail)
              go_wp2_with (first | (at_builtin; go_must ((refine wpList_append_rec Try.elStr rfl (.tmp 40) (.tmp 44) rfl rfl ((HO.out.drewN _).alloc _) y rfl (Box.at_ _ [.string y] _ ?_) (strE_one _) ?_ (by decide) ?_ ?_; (focus (first | omega | (simp only [World.size_alloc]; done) | (simp only [World.size_alloc]; omega) | (simp; done) | (simp; omega))); (focus (first | omega | (simp only [World.size_alloc]; done) | (simp only [World.size_alloc]; omega) | (simp; done) | (simp; omega))); (focus (first | omega | (simp only [World.size_alloc]; done) | (simp only [World.size_alloc]; omega) | (simp; done) | (simp; omega))); intro A4 c4 w4 ho4 hg4 hb4))))
              go_roundw
              case rel => exact ⟨some ⟨b1, o1, none⟩, na, ca, x :: la', some ⟨b2, tailOff o2 1 cb, none⟩, nb - 1, cb - 1, lb', A4, m' + 1, c4, M ++ [y], rfl, rfl, rfl, by omega, by omega, by omega, by omega, by omega, HLa, Lib.hid (by have := HLb.out; simp at this; omega), HA, Lib.hid (HB.out.tail (by have := HLb.out; simpa using this) hnb), Lib.hid ho4, Lib.hid (by rw [← HQ.out, hq1.out, List.append_assoc]; rfl), ((below_drewN hb _).alloc (by simp; omega) _).trans hb4⟩
              case measure => simp [slLen]; omega
end Go.Proofs.Ytpccbmndgdiloaa
/- All changes of a stage as plain functions. -/
namespace Go.Proofs.Ytpccbmndgdiloaa
set_option linter.unusedVariables false
set_option linter.unusedSimpArgs false
open Go.ChangeShapes Go.WideShapes Go.ChangeAt Go.RowKit Go.Deep
/-- All ways to go on from place p with k places left: the places that stay. -/
def fromK : Nat → Nat → List (List Int)
  | _, 0 => [[]]
  | p, 1 => [[(p : Int)]]
  | p, k + 2 => (fromK (p + 1) (k + 1)).map (fun r => (p : Int) :: r) ++ fromK (p + 2) k
def fibK : Nat → Nat
  | 0 => 1
  | 1 => 1
  | k + 2 => fibK (k + 1) + fibK k
theorem fromK_len : ∀ (k p : Nat), (fromK p k).length = fibK k
  | 0, _ => rfl
  | 1, _ => rfl
  | k + 2, p => by rw [fromK, List.length_append, List.length_map, fromK_len (k + 1), fromK_len k, fibK]
theorem fib_le : ∀ k, k < 9 → fibK k ≤ 34 := of_decide_eq_true (by kernel_rfl)
theorem fromK_le {k : Nat} (h : k ≤ 8) (p : Nat) : (fromK p k).length ≤ 34 := by rw [fromK_len]; exact fib_le k (by omega)
theorem fromK_row : ∀ (k p : Nat), ∀ r ∈ fromK p k, r.length ≤ k ∧ ∀ x ∈ r, (p : Int) ≤ x ∧ x < (p : Int) + k
  | 0, p, r, h => by
    simp only [fromK, List.mem_singleton] at h
    subst h; exact ⟨Nat.le_refl _, fun x hx => by cases hx⟩
  | 1, p, r, h => by
    simp only [fromK, List.mem_singleton] at h
    subst h
    refine ⟨Nat.le_refl _, fun x hx => ?_⟩
    rw [List.mem_singleton.1 hx]; omega
  | k + 2, p, r, h => by
    rw [fromK, List.mem_append, List.mem_map] at h
    rcases h with ⟨q, hq, rfl⟩ | h
    · have ih := fromK_row (k + 1) (p + 1) q hq
      refine ⟨by rw [List.length_cons]; omega, fun x hx => ?_⟩
      rcases List.mem_cons.1 hx with rfl | hx
      · omega
      · have := ih.2 x hx; omega
    · have ih := fromK_row k (p + 2) r h
      exact ⟨by omega, fun x hx => by have := ih.2 x hx; omega⟩
/-- A digit. -/
def dig1 (x : Int) : ByteArray := strOfNums [48 + x]
/-- The text of some places. -/
def placesS (l : List Int) : ByteArray := strOfNums (l.map fun x => 48 + x)
theorem placesS_snoc (l : List Int) (x : Int) : placesS (l ++ [x]) = placesS l ++ dig1 x := by
  rw [placesS, placesS, dig1, strOf_append, List.map_append]; rfl
theorem placesS_size (l : List Int) : (placesS l).size = l.length := by rw [placesS, strOfNums_size, List.length_map]
def ofPl (l : List Int) : ByteArray := if l.length = 0 then ⟨#[45]⟩ else placesS l
theorem ofPl_0 {l : List Int} (h : l.length = 0) : ofPl l = ⟨#[45]⟩ := by rw [ofPl, if_pos h]
theorem ofPl_pos {l : List Int} (h : 0 < l.length) : ofPl l = placesS l := by rw [ofPl, if_neg (by omega)]
theorem ofPl_size {l : List Int} (h : l.length ≤ 8) : (ofPl l).size ≤ 8 := by
  by_cases h0 : l.length = 0
  · rw [ofPl_0 h0]; decide
  · rw [ofPl_pos (by omega), placesS_size]; exact h
/-- The changes of stage n, in the order in which their places are told. -/
def chsRaw (n : Nat) : List ByteArray := ((fromK 1 n).map ofPl).filter fun c => goodChange n c
end Go.Proofs.Ytpccbmndgdiloaa
/- The change between two rows: the program's way and the reference's agree on whether there is one. -/
namespace Go.Proofs.Ytpccbmndgdiloaa
set_option linter.unusedVariables false
set_option linter.unusedSimpArgs false
open Go.ChangeShapes Go.WideShapes Go.ChangeAt Go.RowKit Go.Deep
/-- From which places the bytes come, k places left from place i on, ps the places (from 1) that stay. -/
def idxK : Nat → Nat → List Int → List Nat
  | _, 0, _ => []
  | i, 1, _ => [i]
  | i, k + 2, ps => match ps with
    | [] => (i + 1) :: i :: idxK (i + 2) k []
    | x :: r => if x = (i : Int) + 1 then i :: idxK (i + 1) (k + 1) r else (i + 1) :: i :: idxK (i + 2) k (x :: r)
theorem idx_stay (i k : Nat) (r : List Int) : idxK i (k + 2) (((i : Int) + 1) :: r) = i :: idxK (i + 1) (k + 1) r := by rw [idxK, if_pos rfl]
theorem idx_swap {i k : Nat} {ps : List Int} (h : ∀ x ∈ ps, (i : Int) + 1 < x) : idxK i (k + 2) ps = (i + 1) :: i :: idxK (i + 2) k ps := by
  rcases ps with _ | ⟨x, r⟩
  · rw [idxK]
  · rw [idxK, if_neg (by have := h x (List.mem_cons_self ..); omega)]
theorem idxK_len : ∀ (k i : Nat) (ps : List Int), (idxK i k ps).length = k
  | 0, _, _ => rfl
  | 1, _, _ => rfl
  | k + 2, i, [] => by rw [idxK, List.length_cons, List.length_cons, idxK_len k]
  | k + 2, i, x :: r => by
    rw [idxK]
    split
    · rw [List.length_cons, idxK_len (k + 1)]
    · rw [List.length_cons, List.length_cons, idxK_len k]
/-- The program's way: k places left, i done, whether a pair has been swapped. -/
def btwK (a b : ByteArray) : Nat → Nat → Bool → Bool
  | 0, _, sw => sw
  | 1, i, sw => if PlainAid.bt a i = PlainAid.bt b i then sw else false
  | k + 2, i, sw => if PlainAid.bt a i = PlainAid.bt b i then btwK a b (k + 1) (i + 1) sw else
      if PlainAid.bt a i = PlainAid.bt b (i + 1) ∧ PlainAid.bt a (i + 1) = PlainAid.bt b i then btwK a b k (i + 2) true else false
def fromIdx (a b : ByteArray) (i k : Nat) (ps : List Int) : Prop := ∀ j, j < k → PlainAid.bt b (i + j) = PlainAid.bt a ((idxK i k ps).getD j 0)
theorem btw_iff {a b : ByteArray} (n : Nat) (hd : ∀ i j, i < j → j < n → PlainAid.bt a i ≠ PlainAid.bt a j) : ∀ (k i : Nat) (sw : Bool), i + k = n →
    (btwK a b k i sw = true ↔ ∃ ps ∈ fromK (i + 1) k, fromIdx a b i k ps ∧ (sw = true ∨ ps.length < k))
  | 0, i, sw, h => by
    simp only [btwK, fromK, List.mem_singleton, exists_eq_left, fromIdx, List.length_nil]
    constructor
    · intro h; exact ⟨fun j hj => absurd hj (by omega), .inl h⟩
    · rintro ⟨_, h | h⟩
      · exact h
      · omega
  | 1, i, sw, h => by
    simp only [btwK, fromK, List.mem_singleton, exists_eq_left, fromIdx, List.length_cons, List.length_nil]
    constructor
    · intro h
      split at h
      · rename_i e
        exact ⟨fun j hj => by obtain rfl : j = 0 := by omega
                              simp [idxK, e], .inl h⟩
      · cases h
    · rintro ⟨h1, h | h⟩
      · have := h1 0 (by omega)
        simp [idxK] at this
        rw [if_pos this.symm]; exact h
      · omega
  | k + 2, i, sw, h => by
    have ih1 := btw_iff (b := b) n hd (k + 1) (i + 1) sw (by omega)
    have ih2 := btw_iff (b := b) n hd k (i + 2) true (by omega)
    have hsplit : ∀ ps, ps ∈ fromK (i + 1) (k + 2) ↔ (∃ r ∈ fromK (i + 2) (k + 1), ps = ((i : Int) + 1) :: r) ∨ ps ∈ fromK (i + 3) k := fun ps => by
      rw [fromK, List.mem_append, List.mem_map]
      constructor
      · rintro (⟨r, hr, rfl⟩ | h)
        · exact .inl ⟨r, hr, by congr 1⟩
        · exact .inr h
      · rintro (⟨r, hr, rfl⟩ | h)
        · exact .inl ⟨r, hr, by congr 1⟩
        · exact .inr h
    rw [btwK]
    constructor
    · intro hb
      split at hb
      · rename_i e
        obtain ⟨r, hr, h1, h2⟩ := ih1.1 hb
        refine ⟨((i : Int) + 1) :: r, (hsplit _).2 (.inl ⟨r, hr, rfl⟩), fun j hj => ?_, ?_⟩
        · rw [idx_stay]
          rcases j with _ | j
          · simpa using e.symm
          · have := h1 j (by omega)
            rw [show i + (j + 1) = i + 1 + j by omega]
            simpa using this
        · rcases h2 with h2 | h2
          · exact .inl h2
          · right; rw [List.length_cons]; omega
      · split at hb
        · rename_i e
          obtain ⟨ps, hps, h1, h2⟩ := ih2.1 hb
          have hx := (fromK_row k (i + 3) ps hps)
          refine ⟨ps, (hsplit _).2 (.inr hps), fun j hj => ?_, .inr (by omega)⟩
          rw [idx_swap (fun x hx' => by have := hx.2 x hx'; omega)]
          rcases j with _ | _ | j
          · simpa using e.2.symm
          · simpa using e.1.symm
          · have := h1 j (by omega)
            rw [show i + (j + 1 + 1) = i + 2 + j by omega]
            simpa using this
        · cases hb
    · rintro ⟨ps, hps, h1, h2⟩
      rcases (hsplit ps).1 hps with ⟨r, hr, rfl⟩ | hps
      · rw [fromIdx, idx_stay] at h1
        have h0 := h1 0 (by omega)
        simp at h0
        rw [if_pos h0.symm]
        refine ih1.2 ⟨r, hr, fun j hj => ?_, ?_⟩
        · have := h1 (j + 1) (by omega)
          rw [show i + (j + 1) = i + 1 + j by omega] at this
          simpa using this
        · rcases h2 with h2 | h2
          · exact .inl h2
          · right; rw [List.length_cons] at h2; omega
      · have hx := (fromK_row k (i + 3) ps hps)
        rw [fromIdx, idx_swap (fun x hx' => by have := hx.2 x hx'; omega)] at h1
        have h0 := h1 0 (by omega)
        have h3 := h1 1 (by omega)
        simp at h0 h3
        have hne := hd i (i + 1) (by omega) (by omega)
        rw [if_neg (fun e => hne (by rw [e, h0])), if_pos ⟨h3.symm, h0.symm⟩]
        refine ih2.2 ⟨ps, hps, fun j hj => ?_, .inl rfl⟩
        have := h1 (j + 1 + 1) (by omega)
        rw [show i + (j + 1 + 1) = i + 2 + j by omega] at this
        simpa using this
/-! sws by fuel, for the kernel -/
def swsF (st : Int → Bool) (n : Nat) : Nat → Nat → List Int
  | 0, _ => []
  | f + 1, p => if p < n then (if st p then swsF st n f (p + 1) else (p : Int) :: swsF st n f (p + 2)) else []
theorem sws_F (st : Int → Bool) (n : Nat) : ∀ (f p : Nat), n ≤ p + f → sws st n p = swsF st n f p
  | 0, p, h => by rw [sws_end (by omega), swsF]
  | f + 1, p, h => by
    rw [swsF]
    by_cases hp : p < n
    · rw [if_pos hp]
      rcases hs : st p
      · rw [sws_swap hp hs, if_neg (by simp), sws_F st n f (p + 2) (by omega)]
      · rw [sws_stay hp hs, if_pos rfl, sws_F st n f (p + 1) (by omega)]
    · rw [sws_end hp, if_neg hp]
def idxC (n : Nat) (ps : List Int) : List Nat := (List.range n).map fun j => (cval (swsF (stays (ofPl ps)) n 9 1) j - 49).toNat
def okPs (n : Nat) (ps : List Int) : Bool := (idxC n ps == idxK 0 n ps) && (goodChange n (ofPl ps) == decide (ps.length < n))
theorem all_ok : ∀ n, n < 9 → 3 ≤ n → (fromK 1 n).all (okPs n) = true := of_decide_eq_true (by kernel_rfl)
end Go.Proofs.Ytpccbmndgdiloaa
/- A change leads from one row to another just where the program finds one. -/
namespace Go.Proofs.Ytpccbmndgdiloaa
set_option linter.unusedVariables false
set_option linter.unusedSimpArgs false
open Go.ChangeShapes Go.WideShapes Go.ChangeAt Go.RowKit Go.Deep
theorem nums_apply {a : ByteArray} (h : goodRow a = true) (c : ByteArray) : nums (applyR a c) = (rowV a.size (swaps a.size c)).map fun z => PlainAid.bt a (z - 49).toNat := by
  have hn := goodRow_n h
  have hr := goodRow_list h
  have e0 : nums (chRow a.size c) = rowV a.size (swaps a.size c) := by rw [chRow, nums_strOf (rowL_bytes (rowL_ch a.size c) (by rw [rowV_len]; omega))]
  have h2 := rowL_times hr (by rw [e0]; exact rowL_ch a.size c) (chRow_size a.size c).symm
  rw [applyR, timesS, nums_strOf (rowL_bytes h2 (by rw [timesL_len, chRow_size]; omega)), timesL, e0]
theorem apply_iff {a b : ByteArray} (ha : goodRow a = true) (e : a.size = b.size) {ps : List Int} (hps : ps ∈ fromK 1 a.size) : applyR a (ofPl ps) = b ↔ fromIdx a b 0 a.size ps := by
  have hn := goodRow_n ha
  have hok := all_ok a.size (by omega) (by omega)
  rw [List.all_eq_true] at hok
  have hok := hok ps hps
  rw [okPs, Bool.and_eq_true] at hok
  have hi : idxC a.size ps = idxK 0 a.size ps := by simpa using hok.1
  have hsw : swsF (stays (ofPl ps)) a.size 9 1 = swaps a.size (ofPl ps) := (sws_F _ _ _ _ (by omega)).symm
  have hat : ∀ j, j < a.size → (nums (applyR a (ofPl ps)))[j]? = some (PlainAid.bt a ((idxK 0 a.size ps).getD j 0)) := fun j hj => by
    rw [nums_apply ha, ← hi, rowV, List.map_map, List.getElem?_map, List.getElem?_range hj, idxC, hsw]
    simp [hj]
  constructor
  · intro h j hj
    have h1 := hat j hj
    rw [h, nums_at (by omega)] at h1
    injection h1 with h1
    rw [Nat.zero_add]; exact h1
  · intro h
    apply nums_inj
    apply List.ext_getElem?
    intro j
    by_cases hj : j < a.size
    · rw [hat j hj, nums_at (by omega)]
      have := h j hj
      rw [Nat.zero_add] at this
      rw [this]
    · rw [List.getElem?_eq_none (by rw [nums_len, applyR_size]; omega), List.getElem?_eq_none (by rw [nums_len]; omega)]
theorem mem_chs {n : Nat} {c : ByteArray} : c ∈ chsRaw n ↔ (∃ ps ∈ fromK 1 n, ofPl ps = c) ∧ goodChange n c = true := by
  rw [chsRaw, List.mem_filter, List.mem_map]
theorem row_ne {a : ByteArray} (ha : goodRow a = true) {i j : Nat} (hij : i < j) (hj : j < a.size) : PlainAid.bt a i ≠ PlainAid.bt a j := by
  have hp := (goodRow_list ha).1
  rw [List.nodup_iff_pairwise_ne, List.pairwise_iff_getElem] at hp
  have := hp i j (by rw [nums_len]; omega) (by rw [nums_len]; omega) hij
  have h1 := nums_at (s := a) (k := i) (by omega); have h2 := nums_at (s := a) (k := j) (by omega)
  rw [List.getElem?_eq_getElem (by rw [nums_len]; omega)] at h1 h2
  injection h1 with h1; injection h2 with h2
  rw [← h1, ← h2]; exact this
/-- Whether a change leads from a to b. -/
def btwB (a b : ByteArray) : Bool := btwK a b a.size 0 false
theorem btw_change {a b : ByteArray} (ha : goodRow a = true) (e : a.size = b.size) : btwB a b = true ↔ ∃ c ∈ chsRaw a.size, applyR a c = b := by
  have hn := goodRow_n ha
  have hok := all_ok a.size (by omega) (by omega)
  rw [List.all_eq_true] at hok
  rw [btwB, btw_iff (b := b) a.size (fun i j h1 h2 => row_ne ha h1 h2) a.size 0 false (by omega)]
  constructor
  · rintro ⟨ps, hps, h1, h2⟩
    have h3 := hok ps hps
    rw [okPs, Bool.and_eq_true] at h3
    have hl : ps.length < a.size := by rcases h2 with h2 | h2; cases h2; exact h2
    have hg : goodChange a.size (ofPl ps) = true := by
      have := h3.2
      rw [decide_eq_true hl] at this
      simpa using this
    exact ⟨ofPl ps, mem_chs.2 ⟨⟨ps, hps, rfl⟩, hg⟩, (apply_iff ha e hps).2 h1⟩
  · rintro ⟨c, hc, h1⟩
    obtain ⟨⟨ps, hps, rfl⟩, hg⟩ := mem_chs.1 hc
    have h3 := hok ps hps
    rw [okPs, Bool.and_eq_true, hg] at h3
    refine ⟨ps, hps, (apply_iff ha e hps).1 h1, .inr ?_⟩
    have := h3.2
    by_cases hl : ps.length < a.size
    · exact hl
    · rw [decide_eq_false hl] at this; simp at this
end Go.Proofs.Ytpccbmndgdiloaa
/- The walks through all changes of a stage, the reference's side. -/
namespace Go.Proofs.Ytpccbmndgdiloaa
set_option linter.unusedVariables false
set_option linter.unusedSimpArgs false
open Go.ChangeShapes Go.WideShapes Go.ChangeAt Go.RowKit Go.Deep
theorem own_lit1 {α : Type} {e : α → List Value} {s : Nat} (he : ∀ x, (e x).length = s) (w : World) (E : TypeId) (x : α) {base : Nat} (hb : base ≤ w.heap.size) : Owned e s E (w.alloc (.cells ⟨e x⟩ E)) base (some ⟨w.heap.size, 0, none⟩) 1 1 [x] :=
  ⟨he, rfl, by simpa using World.ownsRow_lit (e := E) (base := base) (size := s) w ⟨e x⟩ 1 hb (by unfold maxLen; omega) (by simp [he])⟩
set_option maxHeartbeats 1000000 in
set_option maxRecDepth 100000 in
theorem spec_l2From : ∀ (k n p : Nat) (w : World), k ≤ 8 → n ≤ 8 → n + 1 = p + k → 1 ≤ p →
    Calls Try.prog 184 #[.int .i64 n, .int .i64 p] w fun e w' => ∃ vs A c, e = .returned (.slice A (fromK p k).length c) ∧ LT intE 1 3 60 vs w' w.heap.size A (fromK p k).length c (fromK p k) ∧ Below w.heap.size w w' := by
  intro k
  induction k using Nat.strongRecOn with
  | ind k ih =>
    intro n p w hk hn8 hn hp
    by_cases h0 : k = 0
    · subst h0
      have hI : (n : Int) < (p : Int) := by omega
      have hl : LT intE 1 3 60 [(none, 0, 0)] (w.alloc (.cells #[.slice none 0 0] 60)) w.heap.size (some ⟨w.heap.size, 0, none⟩) 1 1 [[]] := ⟨rfl, own_lit1 slcE_len w 60 (none, 0, 0) (Nat.le_refl _), fun j v r hv hr => by
        have hj : j = 0 := by have := (List.getElem?_eq_some_iff.1 hv).1; simp at this; exact this
        subst hj
        simp at hv hr
        subst hv hr
        exact Owned.nil intE_len _ _ _⟩
      go_in
      go_wp2
      go_ret
      exact ⟨_, _, _, rfl, hl, by (repeat' (first | (with_reducible exact Below.refl _ _) | (with_reducible assumption) | (with_reducible refine below_drewN ?_ _) | (with_reducible refine Below.drew ?_) | (with_reducible refine below_alloc ?_ _) | (with_reducible refine Below.alloc ?_ ?_ _) | (with_reducible refine Below.setCell ?_ ?_ _) | (with_reducible refine below_go ?_ (by with_reducible assumption)) | (with_reducible refine below_then (by with_reducible assumption) ?_ ?_) | go_size))⟩
    · obtain ⟨q, rfl⟩ : ∃ q, k = q + 1 := ⟨k - 1, by omega⟩
      have hI : ¬ (n : Int) < (p : Int) := by omega
      have IH := Lib.hid (ih q (by omega))
      have IH2 := Lib.hid (fun m (hm : m + 1 = q) => ih m (by omega))
      have hlen := Lib.hid (fromK_le (k := q) (by omega) (p + 1))
      have hrow := Lib.hid (fromK_row q (p + 1))
      have hT : Hid (fromK p (q + 1) = (fromK (p + 1) q).map (fun r => (p : Int) :: r) ++ (if q = 0 then [] else fromK (p + 2) (q - 1))) := Lib.hid (by rcases q with _ | q <;> simp [fromK])
      clear ih
      go_in
      go_wp2_with fail
      rw [show ((p : Int) + 1) = ((p + 1 : Nat) : Int) by omega]
      refine (IH.out n (p + 1) w (by omega) (by omega) (by omega) (by omega)).mono ?_; rintro e w1 ⟨vs1, A1, c1, rfl, L1, hb1⟩
      have HW1 := hb1.size
      go_wp2
      go_loopw [5, 17] (fun v i wr => ∃ (j : Nat) (us : List Hd) (A' : Option Addr) (c' : Nat), j ≤ (fromK (p + 1) q).length ∧ i = .int .i64 j ∧ v = .slice A' j c' ∧ Hid (LT intE 1 3 60 us wr w1.heap.size A' j c' (((fromK (p + 1) q).take j).map fun r => (p : Int) :: r)) ∧ Below w1.heap.size w1 wr) (fun _ i _ => (fromK (p + 1) q).length - (intOf i).toNat)
      case atStart => exact ⟨0, [], none, 0, Nat.zero_le _, rfl, rfl, Lib.hid (LT.nil _ _), Below.refl _ _⟩
      case round =>
        obtain ⟨j, us, A', c', hj, rfl, rfl, HL, hb⟩ := hrel
        by_cases hlt : j < (fromK (p + 1) q).length
        · obtain ⟨b3, o3, v, r, rfl, hbb, hr, hv, hc, ho⟩ := (L1.up hb).at_ hlt
          have hrl := hrow.out r (List.mem_of_getElem? hr)
          have HR := Lib.hid hr
          have HO := Lib.hid ho
          have hsz := hb.size
          have hl := hlen.out
          clear hr hv ho
          go_wp2_with (first | (at_builtin; ((refine wpList_append_recs Try.elInt intE_one rfl (.tmp 23) (.tmp 24) rfl rfl (own_lit1 intE_len _ _ (p : Int) (base := wr.heap.size) (Nat.le_refl _)) rfl (HO.out.recs.alloc _) rfl ?_ (by decide) ?_ ?_; (focus (first | omega | (simp only [World.size_alloc]; done) | (simp only [World.size_alloc]; omega) | (simp; done) | (simp; omega))); (focus (first | omega | (simp only [World.size_alloc]; done) | (simp only [World.size_alloc]; omega) | (simp; done) | (simp; omega))); intro A2 c2 w2 ho2 hg2 hl2; have hb2 := lit_app hg2; have HL2 := Lib.hid (HL.out.up hb2); have hsz2 := hb2.size))) | (at_builtin; go_must ((refine wpList_append_recs Try.elInts slcE_one rfl (.tmp 21) (.tmp 26) rfl rfl (HL2.out.top.alloc _) rfl (own_lit1 slcE_len _ _ ((A2, 1 + r.length, c2) : Hd) (Nat.le_refl _)).recs rfl ?_ (by decide) ?_ ?_; (focus (first | omega | (simp only [World.size_alloc]; done) | (simp only [World.size_alloc]; omega) | (simp; done) | (simp; omega))); (focus (first | omega | (simp only [World.size_alloc]; done) | (simp only [World.size_alloc]; omega) | (simp; done) | (simp; omega))); intro A3 c3 w3 ho3 hg3 hl3))))
          have hL3 := (HL2.out.alloc (.cells #[.slice A2 (1 + r.length) c2] 60)).add (by decide) ((ho2.base_le hsz).alloc _) ho3 hg3
          have hb3 : Below w1.heap.size w1 w3 := ((hb.trans (hb2.mono hsz)).alloc (by omega) _).trans (grown_base hg3 (by simp; omega) (fun k hk => (HL2.out.top.blk hk).1))
          go_roundw
          case rel => exact ⟨j + 1, _, A3, c3, by omega, by go_num, by go_num, Lib.hid (by rw [take_succ_some HR.out, List.map_append]; exact hL3), hb3⟩
          case measure => simp [intOf]; omega
        · obtain rfl : j = (fromK (p + 1) q).length := by omega
          have e1 := Lib.hid (show ((fromK (p + 1) q).take (fromK (p + 1) q).length).map (fun r => (p : Int) :: r) = (fromK (p + 1) q).map fun r => (p : Int) :: r by rw [List.take_of_length_le (Nat.le_refl _)])
          have hsz := hb.size
          rcases Nat.eq_zero_or_pos q with hq | hq
          · subst hq
            have hI2 : ¬ (p : Int) < (n : Int) := by omega
            have e2 := Lib.hid (show fromK p (0 + 1) = (fromK (p + 1) 0).map (fun r => (p : Int) :: r) by rw [hT.out]; simp)
            have e3 := Lib.hid (show (fromK (p + 1) 0).length = 1 from rfl)
            go_wp2
            go_ret
            have hl := HL.out
            rw [e1.out, ← e2.out] at hl
            exact ⟨_, _, _, rfl, hl.base_le HW1, below_go hb1 hb⟩
          · obtain ⟨m, rfl⟩ : ∃ m, q = m + 1 := ⟨q - 1, by omega⟩
            have hI2 : (p : Int) < (n : Int) := by omega
            go_wp2_with fail
            rw [show ((p : Int) + 2) = ((p + 2 : Nat) : Int) by omega]
            refine (IH2.out m rfl n (p + 2) wr (by omega) (by omega) (by omega) (by omega)).mono ?_; rintro e w4 ⟨vs4, A4, c4, rfl, L4, hb4⟩
            have HL4 := Lib.hid (HL.out.up hb4)
            have hl2 := Lib.hid (fromK_le (k := m) (by omega) (p + 2))
            have hl3 := hl2.out
            have hl1 := hlen.out
            have hsz4 := hb4.size
            have e2 := Lib.hid (show fromK p (m + 1 + 1) = (fromK (p + 1) (m + 1)).map (fun r => (p : Int) :: r) ++ fromK (p + 2) m by rw [hT.out, if_neg (by omega)]; rfl)
            have e3 := Lib.hid (show (fromK p (m + 1 + 1)).length = (fromK (p + 1) (m + 1)).length + (fromK (p + 2) m).length by rw [e2.out, List.length_append, List.length_map])
            go_wp2_with (first | (at_builtin; go_must ((refine wpList_append_recs Try.elInts slcE_one rfl (.tmp 32) (.tmp 36) rfl rfl HL4.out.top rfl L4.top.recs L4.top.len ?_ (by decide) ?_ ?_; (focus (first | omega | (simp only [World.size_alloc]; done) | (simp only [World.size_alloc]; omega) | (simp; done) | (simp; omega))); (focus (first | omega | (simp only [World.size_alloc]; done) | (simp only [World.size_alloc]; omega) | (simp; done) | (simp; omega))); intro A5 c5 w5 ho5 hg5 hl5))))
            go_ret
            have hL5 := HL4.out.join (by decide) (L4.base_le hsz) ho5 hg5
            rw [e1.out, ← e2.out, ← e3.out] at hL5
            rw [e3.out]
            rw [e3.out] at hL5
            exact ⟨_, _, _, rfl, hL5.base_le HW1, below_go hb1 ((hb.trans (hb4.mono hsz)).trans (grown_base hg5 (by omega) (fun k hk => (HL4.out.top.blk hk).1)))⟩
end Go.Proofs.Ytpccbmndgdiloaa
/- The walks through the smallest functions. -/
namespace Go.Proofs.Ytpccbmndgdiloaa
set_option linter.unusedVariables false
set_option linter.unusedSimpArgs false
open Go.ChangeShapes Go.WideShapes Go.ChangeAt Go.RowKit Go.Deep

theorem impl_within (n a b : Int) (w : World) :
    Calls Try.prog 100 #[.int .i64 n, .int .i64 a, .int .i64 b] w fun e w' => e = .returned (.bool (inB n a b)) ∧ w = w' := by
  by_cases h : a ≤ n
  all_goals
    go_in
    go_wp2
    all_goals go_ret
    all_goals (refine ⟨?_, rfl⟩; simp only [inB]; simp_all <;> omega)
theorem spec_l1In (n a b : Int) (w : World) :
    Calls Try.prog 104 #[.int .i64 n, .int .i64 a, .int .i64 b] w fun e w' => e = .returned (.bool (inB n a b)) ∧ w = w' := by
  by_cases h : a ≤ n
  all_goals
    go_in
    go_wp2
    all_goals go_ret
    all_goals (refine ⟨?_, rfl⟩; simp only [inB]; simp_all <;> omega)
theorem impl_isBell (n b : Int) (w : World) :
    Calls Try.prog 144 #[.int .i64 n, .int .i64 b] w fun e w' => e = .returned (.bool (inB b 1 n)) ∧ w = w' := by
  by_cases h : 1 ≤ b
  all_goals
    go_in
    go_wp2
    all_goals go_ret
    all_goals (refine ⟨?_, rfl⟩; simp only [inB]; simp_all <;> omega)

theorem impl_isStage (n : Int) (w : World) :
    Calls Try.prog 110 #[.int .i64 n] w fun e w' => e = .returned (.bool (inB n 3 8)) ∧ w = w' := by
  by_cases h : 3 ≤ n
  all_goals
    go_in
    go_wp2
    all_goals go_ret
    all_goals (refine ⟨?_, rfl⟩; simp only [inB]; simp_all <;> omega)

end Go.Proofs.Ytpccbmndgdiloaa
/- The walks through changes: which are good, which places stay, which swap. -/
namespace Go.Proofs.Ytpccbmndgdiloaa
set_option linter.unusedVariables false
set_option linter.unusedSimpArgs false
open Go.ChangeShapes Go.WideShapes Go.ChangeAt Go.RowKit Go.Deep
theorem spec_l2Stays {c : ByteArray} {p : Int} {w : World} (hz : c.size ≤ 16777216) (hp : I64 p) :
    Calls Try.prog 166 #[.string c, .int .i64 p] w fun e w' => e = .returned (.bool (stays c p)) ∧ w = w' := by
  have hb := PlainAid.get_bt c
  go_in
  go_wp2
  go_loopw [5] (fun i wr => ∃ k : Nat, k ≤ c.size ∧ i = .int .i64 k ∧ Hid (stays c p = ((digs c).drop k).contains p) ∧ w = wr) (fun i _ => c.size - (intOf i).toNat)
  case atStart => exact ⟨0, Nat.zero_le _, rfl, Lib.hid rfl, rfl⟩
  case round =>
    obtain ⟨k, hk, rfl, HK, rfl⟩ := hrel
    by_cases hlt : k < c.size
    · have hw := wrap_bt c k
      have hw2 := wrap_dg c k
      have HD := Lib.hid (digs_drop hlt)
      rcases he : (dg c k == p)
      · have he' := Lib.hid he
        go_wp2
        go_roundw
        case rel =>
          refine ⟨k + 1, by omega, by go_num, Lib.hid ?_, trivial⟩
          rw [HK.out, HD.out, List.contains_cons, show (p == dg c k) = false by rw [← he'.out]; exact Bool.beq_comm ..]
          rfl
        case measure => simp [intOf]; omega
      · have he' := Lib.hid he
        go_wp2
        go_ret
        refine ⟨ret_bool ?_, rfl⟩
        rw [HK.out, HD.out, List.contains_cons, show (p == dg c k) = true by rw [← he'.out]; exact Bool.beq_comm ..]
        rfl
    · obtain rfl : k = c.size := by omega
      have e0 : stays c p = false := by rw [HK.out, List.drop_eq_nil_of_le (by rw [digs_len]; omega)]; rfl
      go_wp2
      go_ret
      exact ⟨ret_bool e0.symm, rfl⟩
theorem spec_l2Change {c : ByteArray} {n : Int} {w : World} (hz : c.size ≤ 16777216) (hn : I64 n) :
    Calls Try.prog 82 #[.int .i64 n, .string c] w fun e w' => e = .returned (.bool (goodChange n c)) ∧ w = w' := by
  have hb := PlainAid.get_bt c
  rcases h1 : inB n 3 8
  · have e0 := Lib.hid (goodChange_stage (c := c) h1)
    go_in
    go_wp2_with (first | (go_at_call 104; refine (spec_l1In _ _ _ _).mono ?_; rintro e w' ⟨rfl, rfl⟩))
    go_ret
    exact ⟨ret_bool e0.out.symm, rfl⟩
  have hn3 := inB_t h1
  have H1 := Lib.hid h1
  rcases h2 : sizeOk n c
  · have e0 := Lib.hid (goodChange_size h2)
    have h3 := sizeOk_f h2
    by_cases h4 : 0 < c.size
    · obtain ⟨he1, he2⟩ := some_bytes h4
      have h5 := h3 h4
      go_in
      go_wp2_with (first | (go_at_call 104; refine (spec_l1In _ _ _ _).mono ?_; rintro e w' ⟨rfl, rfl⟩))
      go_ret
      exact ⟨ret_bool e0.out.symm, rfl⟩
    · obtain ⟨he1, he2⟩ := no_bytes h4
      go_in
      go_wp2_with (first | (go_at_call 104; refine (spec_l1In _ _ _ _).mono ?_; rintro e w' ⟨rfl, rfl⟩))
      go_ret
      exact ⟨ret_bool e0.out.symm, rfl⟩
  obtain ⟨h4, h5⟩ := sizeOk_t h2
  obtain ⟨he1, he2⟩ := some_bytes h4
  rcases h6 : isDash c
  · have e0 := Lib.hid (goodChange_chain h1 h2 h6)
    have h7 : (c.toList == [45]) = false := h6
    go_in
    go_wp2_with (first | (go_at_call 104; refine (spec_l1In _ _ _ _).mono ?_; rintro e w' ⟨rfl, rfl⟩))
    go_loopw [5, 6] (fun v i wr => ∃ (k : Nat) (x : Int), k ≤ c.size ∧ i = .int .i64 k ∧ v = .int .i64 x ∧ 0 ≤ x ∧ x ≤ n ∧ Hid (goodChange n c = chain n x ((digs c).drop k)) ∧ w = wr) (fun _ i _ => c.size - (intOf i).toNat)
    case atStart => exact ⟨0, 0, Nat.zero_le _, rfl, rfl, by omega, by omega, Lib.hid e0.out, rfl⟩
    case round =>
      obtain ⟨k, x, hk, rfl, rfl, hx0, hxn, HK, rfl⟩ := hrel
      by_cases hlt : k < c.size
      · have hw := wrap_bt c k
        have hw2 := wrap_dg c k
        have HD := Lib.hid (digs_drop hlt)
        have hdg := dg_in c k
        rcases hin : inB (dg c k) (x + 1) n
        · have e1 := Lib.hid (show goodChange n c = false by rw [HK.out, HD.out, chain, stepOk, hin]; rfl)
          have hin' := Lib.hid hin
          go_wp2_with (first | (go_at_call 104; refine (spec_l1In _ _ _ _).mono ?_; rintro e w' ⟨rfl, rfl⟩))
          go_ret
          exact ⟨ret_bool e1.out.symm, rfl⟩
        have hin1 := inB_t hin
        rcases hq : ((dg c k - x) % 2 == 0)
        · have e1 := Lib.hid (show goodChange n c = chain n (dg c k) ((digs c).drop (k + 1)) by rw [HK.out, HD.out, chain, stepOk, hin, hq]; rfl)
          go_wp2_with (first | (go_at_call 104; refine (spec_l1In _ _ _ _).mono ?_; rintro e w' ⟨rfl, rfl⟩))
          go_roundw
          case rel => exact ⟨k + 1, dg c k, by omega, by go_num, rfl, by omega, by omega, e1, trivial⟩
          case measure => simp [intOf]; omega
        · have e1 := Lib.hid (show goodChange n c = false by rw [HK.out, HD.out, chain, stepOk, hin, hq]; rfl)
          go_wp2_with (first | (go_at_call 104; refine (spec_l1In _ _ _ _).mono ?_; rintro e w' ⟨rfl, rfl⟩))
          go_ret
          exact ⟨ret_bool e1.out.symm, rfl⟩
      · obtain rfl : k = c.size := by omega
        have e1 := Lib.hid (show goodChange n c = ((n - x) % 2 == 0) by rw [HK.out, List.drop_eq_nil_of_le (by rw [digs_len]; omega), chain])
        go_wp2
        go_ret
        exact ⟨ret_bool e1.out.symm, rfl⟩
  · have e0 := Lib.hid (goodChange_dash h1 h2 h6)
    have h7 : (c.toList == [45]) = true := h6
    go_in
    go_wp2_with (first | (go_at_call 104; refine (spec_l1In _ _ _ _).mono ?_; rintro e w' ⟨rfl, rfl⟩))
    go_ret
    exact ⟨ret_bool e0.out.symm, rfl⟩
set_option maxRecDepth 100000 in
theorem spec_l2Swaps {c : ByteArray} {n : Nat} {w : World} (hz : c.size ≤ 16777216) (hn : n ≤ 8) :
    Calls Try.prog 83 #[.int .i64 n, .string c] w fun e w' => ∃ A' c', e = .returned (.slice A' (swaps n c).length c') ∧
      Owned intE 1 3 w' w.heap.size A' (swaps n c).length c' (swaps n c) ∧ Below w.heap.size w w' := by
  go_in
  go_wp2
  go_loopw [5, 6] (fun v i wr => ∃ (k : Nat) (A' : Option Addr) (m c' : Nat) (l : List Int), k ≤ n + 1 ∧ i = .int .i64 (k + 1 : Nat) ∧ v = .slice A' m c' ∧ Hid (swaps n c = l ++ sws (stays c) n (k + 1)) ∧ m ≤ k ∧ Owned intE 1 3 wr w.heap.size A' m c' l ∧ Below w.heap.size w wr) (fun _ i _ => n + 2 - (intOf i).toNat)
  case atStart => exact ⟨0, none, 0, 0, [], by omega, rfl, rfl, Lib.hid rfl, by omega, Owned.nil intE_len _ _ _, by (repeat' (first | (with_reducible exact Below.refl _ _) | (with_reducible assumption) | (with_reducible refine below_drewN ?_ _) | (with_reducible refine Below.drew ?_) | (with_reducible refine below_alloc ?_ _) | (with_reducible refine Below.alloc ?_ ?_ _) | (with_reducible refine Below.setCell ?_ ?_ _) | (with_reducible refine below_go ?_ (by with_reducible assumption)) | (with_reducible refine below_then (by with_reducible assumption) ?_ ?_) | go_size))⟩
  case round =>
    obtain ⟨k, A', m, c', l, hk, rfl, rfl, HK, hmk, ho, hb⟩ := hrel
    have HO := Lib.hid ho
    have hsz := hb.size
    clear ho
    by_cases hlt : k + 1 < n
    · have hI : I64 ((k : Int) + 1) := by unfold I64; omega
      rcases hs : stays c ((k : Int) + 1)
      · have e1 := Lib.hid (sws_swap hlt hs)
        go_wp2_with (first | (go_at_call 166; refine (spec_l2Stays hz hI).mono ?_; rintro e w' ⟨rfl, rfl⟩) | (at_builtin; go_must ((refine wpList_append_rec Try.elInt rfl (.tmp 16) (.tmp 18) rfl rfl (HO.out.alloc _) ((k : Int) + 1) rfl (Box.at_ _ [.int .i64 ((k : Int) + 1)] _ ?_) (intE_one _) ?_ (by decide) ?_ ?_; (focus (first | omega | (simp only [World.size_alloc]; done) | (simp only [World.size_alloc]; omega) | (simp; done) | (simp; omega))); (focus (first | omega | (simp only [World.size_alloc]; done) | (simp only [World.size_alloc]; omega) | (simp; done) | (simp; omega))); (focus (first | omega | (simp only [World.size_alloc]; done) | (simp only [World.size_alloc]; omega) | (simp; done) | (simp; omega))); intro A2 c2 w2 ho2 hg2 hb2))))
        go_roundw
        case rel => exact ⟨k + 2, A2, m + 1, c2, l ++ [((k + 1 : Nat) : Int)], by omega, by go_num, by go_num, Lib.hid (by rw [HK.out, e1.out, List.append_assoc]; rfl), by omega, ho2, (hb.alloc hsz _).trans hb2⟩
        case measure => simp [intOf]; omega
      · have e1 := Lib.hid (sws_stay hlt hs)
        go_wp2_with (first | (go_at_call 166; refine (spec_l2Stays hz hI).mono ?_; rintro e w' ⟨rfl, rfl⟩))
        go_roundw
        case rel => exact ⟨k + 1, A', m, c', l, by omega, by go_num, rfl, Lib.hid (by rw [HK.out, e1.out]), by omega, HO.out, by (repeat' (first | (with_reducible exact Below.refl _ _) | (with_reducible assumption) | (with_reducible refine below_drewN ?_ _) | (with_reducible refine Below.drew ?_) | (with_reducible refine below_alloc ?_ _) | (with_reducible refine Below.alloc ?_ ?_ _) | (with_reducible refine Below.setCell ?_ ?_ _) | (with_reducible refine below_go ?_ (by with_reducible assumption)) | (with_reducible refine below_then (by with_reducible assumption) ?_ ?_) | go_size))⟩
        case measure => simp [intOf]; omega
    · have e1 := Lib.hid (show swaps n c = l by rw [HK.out, sws_end hlt, List.append_nil])
      have hl := HO.out.len
      go_wp2
      go_ret
      rw [e1.out, hl]
      exact ⟨_, _, rfl, HO.out, hb⟩
end Go.Proofs.Ytpccbmndgdiloaa
/- The walks through the text of places and the list of all changes, the reference's side. -/
namespace Go.Proofs.Ytpccbmndgdiloaa
set_option linter.unusedVariables false
set_option linter.unusedSimpArgs false
open Go.ChangeShapes Go.WideShapes Go.ChangeAt Go.RowKit Go.Deep
theorem spec_l1Num_1 {x : Int} {w : World} (h0 : 0 ≤ x) (h1 : x ≤ 9) :
    Calls Try.prog 220 #[.int .i64 x] w fun e w' => e = .returned (.string (dig1 x)) ∧ Below w.heap.size w w' := by
  have hI : x < 10 := by omega
  have hcv := run_convert_bytes_arg (P := Try.prog) (w.alloc (.cells #[.int .u8 (48 + x)] 5)) 22 5 Try.underlying22 Try.underlying5 w.heap.size 0 1 1 [48 + x] rfl (fun i hi => by
    obtain rfl : i = 0 := by omega
    exact Box.new w [.int .u8 (48 + x)] 5 0 _ rfl) 9 Try.underlying9
  have hdef : strOfNums [48 + x] = dig1 x := rfl
  rw [hdef] at hcv
  clear hdef
  go_in
  go_wp2
  go_ret
  exact ⟨rfl, by (repeat' (first | (with_reducible exact Below.refl _ _) | (with_reducible assumption) | (with_reducible refine below_drewN ?_ _) | (with_reducible refine Below.drew ?_) | (with_reducible refine below_alloc ?_ _) | (with_reducible refine Below.alloc ?_ ?_ _) | (with_reducible refine Below.setCell ?_ ?_ _) | (with_reducible refine below_go ?_ (by with_reducible assumption)) | (with_reducible refine below_then (by with_reducible assumption) ?_ ?_) | go_size))⟩
set_option maxRecDepth 100000 in
theorem spec_l2Of {A : Option Addr} {n c : Nat} {l : List Int} {w : World} (hn : l.length = n) (h : Ints w A l) (hz : n ≤ 8) (hl : ∀ x ∈ l, 0 ≤ x ∧ x ≤ 9) :
    Calls Try.prog 185 #[.slice A n c] w fun e w' => e = .returned (.string (ofPl l)) ∧ Below w.heap.size w w' := by
  subst hn
  have HL := Lib.hid hl
  clear hl
  go_in
  go_wp2
  go_loopw [3, 8] (fun v i wr => ∃ k : Nat, k ≤ l.length ∧ i = .int .i64 k ∧ v = .string (placesS (l.take k)) ∧ Below w.heap.size w wr) (fun _ i _ => l.length - (intOf i).toNat)
  case atStart => exact ⟨0, Nat.zero_le _, rfl, rfl, Below.refl _ _⟩
  case round =>
    obtain ⟨k, hk, rfl, rfl, hb⟩ := hrel
    by_cases hlt : k < l.length
    · obtain ⟨b1, o1, x, rfl, _, hx, hcx⟩ := (h.below hb (Nat.le_refl _)).at_int hlt
      have hxb := HL.out x (List.mem_of_getElem? hx)
      have e1 := Lib.hid (show placesS (l.take (k + 1)) = placesS (l.take k) ++ dig1 x by rw [take_succ_some hx, placesS_snoc])
      have hs1 : (placesS (l.take k)).size ≤ 8 := by rw [placesS_size, List.length_take]; omega
      have hs2 : (dig1 x).size = 1 := rfl
      clear hx h
      go_wp2_with (first | (go_at_call 220; refine (spec_l1Num_1 hxb.1 hxb.2).mono ?_; rintro e w1 ⟨rfl, hb1⟩))
      go_roundw
      case rel => exact ⟨k + 1, by omega, by go_num, by rw [e1.out], below_go hb hb1⟩
      case measure => simp [intOf]; omega
    · obtain rfl : k = l.length := by omega
      rw [List.take_of_length_le (Nat.le_refl _)]
      by_cases h0 : l.length = 0
      · have e1 := Lib.hid (ofPl_0 h0)
        have e2 : (placesS l).toList.isEmpty = true ∧ (placesS l).toList = [] := no_bytes (by rw [placesS_size]; omega)
        obtain ⟨e3, e4⟩ := e2
        go_wp2
        go_ret
        rw [e1.out]
        exact ⟨rfl, hb⟩
      · have e1 := Lib.hid (ofPl_pos (l := l) (by omega))
        have e2 : (placesS l).toList.isEmpty = false ∧ ¬ (placesS l).toList = [] := some_bytes (by rw [placesS_size]; omega)
        obtain ⟨e3, e4⟩ := e2
        go_wp2
        go_ret
        rw [e1.out]
        exact ⟨rfl, hb⟩
end Go.Proofs.Ytpccbmndgdiloaa
/- The walk through the list of all changes, the reference's side. -/
namespace Go.Proofs.Ytpccbmndgdiloaa
set_option linter.unusedVariables false
set_option linter.unusedSimpArgs false
open Go.ChangeShapes Go.WideShapes Go.ChangeAt Go.RowKit Go.Deep
theorem ins_at {α : Type} {M : List α} {y : α} {q : Nat} (h : q ≤ M.length) : (M.take q ++ y :: M.drop q)[q]? = some y := by
  rw [List.getElem?_append_right (by rw [List.length_take]; omega), List.length_take, Nat.min_eq_left h, Nat.sub_self, List.getElem?_cons_zero]
theorem ins_before {α : Type} {M : List α} {y : α} {q : Nat} (h : q < M.length) : (M.take (q + 1) ++ y :: M.drop (q + 1))[q]? = M[q]? := by
  rw [List.getElem?_append_left (by rw [List.length_take]; omega), List.getElem?_take, if_pos (by omega)]
theorem ins_set {α : Type} {M : List α} {y z : α} {q : Nat} (h : q ≤ M.length) : (M.take q ++ y :: M.drop q).set q z = M.take q ++ z :: M.drop q := by
  rw [List.set_append_right _ _ (by rw [List.length_take]; omega), List.length_take, Nat.min_eq_left h, Nat.sub_self, List.set_cons_zero]
theorem ins_down {α : Type} {M : List α} {y z : α} {q : Nat} (hz : M[q]? = some z) : (M.take (q + 1) ++ y :: M.drop (q + 1)).set (q + 1) z = M.take q ++ z :: M.drop q := by
  have h := (List.getElem?_eq_some_iff.1 hz).1
  rw [ins_set (by omega), take_succ_some hz, List.append_assoc]
  congr 1
  rw [List.drop_eq_getElem_cons h, (List.getElem?_eq_some_iff.1 hz).2]; rfl
theorem ins_len {α : Type} {M : List α} {y : α} {q : Nat} (h : q ≤ M.length) : (M.take q ++ y :: M.drop q).length = M.length + 1 := by
  rw [List.length_append, List.length_cons, List.length_take, List.length_drop]; omega
theorem ins_perm {α : Type} {M : List α} {y : α} {q : Nat} : (M.take q ++ y :: M.drop q).Perm (M ++ [y]) := by
  refine (List.perm_middle).trans ?_
  rw [List.take_append_drop]
  exact (List.perm_append_singleton y M).symm
theorem filt_hit {f : ByteArray → Bool} {g : List Int → ByteArray} {T : List (List Int)} {j : Nat} {r : List Int} (hr : T[j]? = some r) (h : f (g r) = true) : ((T.take (j + 1)).map g).filter f = ((T.take j).map g).filter f ++ [g r] := by
  rw [take_succ_some hr, List.map_append, List.filter_append]
  simp [h]
theorem filt_miss {f : ByteArray → Bool} {g : List Int → ByteArray} {T : List (List Int)} {j : Nat} {r : List Int} (hr : T[j]? = some r) (h : f (g r) = false) : ((T.take (j + 1)).map g).filter f = ((T.take j).map g).filter f := by
  rw [take_succ_some hr, List.map_append, List.filter_append]
  simp [h]
set_option maxHeartbeats 2000000 in
set_option maxRecDepth 100000 in
theorem spec_l2All {n : Nat} {w : World} (hn : n ≤ 8) :
    Calls Try.prog 119 #[.int .i64 n] w fun e w' => ∃ A c L, e = .returned (.slice A L.length c) ∧ Owned strE 1 9 w' w.heap.size A L.length c L ∧ L.Perm (chsRaw n) ∧ Below w.heap.size w w' := by
  have hlen := fromK_le (k := n) hn 1
  have HR := Lib.hid (fromK_row n 1)
  have HC : Hid (chsRaw n = ((fromK 1 n).map ofPl).filter fun c => goodChange n c) := Lib.hid rfl
  go_in
  go_wp2_with fail
  refine (spec_l2From n n 1 w hn hn (by omega) (Nat.le_refl _)).mono ?_; rintro e w1 ⟨vs, A1, c1, rfl, L1, hb1⟩
  obtain ⟨T, hT⟩ : ∃ T, T = fromK 1 n := ⟨_, rfl⟩
  rw [← hT] at hlen HR HC L1 ⊢
  clear hT
  go_wp2
  go_loopw [3, 11] (fun v i wr => ∃ (j : Nat) (M : List ByteArray) (A' : Option Addr) (c' : Nat), j ≤ T.length ∧ i = .int .i64 j ∧ v = .slice A' M.length c' ∧ M.length ≤ j ∧ Hid (M.Perm (((T.take j).map ofPl).filter fun c => goodChange n c)) ∧ Hid (Owned strE 1 9 wr w1.heap.size A' M.length c' M) ∧ Below w1.heap.size w1 wr) (fun _ i _ => T.length - (intOf i).toNat)
  case atStart => exact ⟨0, [], none, 0, Nat.zero_le _, rfl, rfl, Nat.le_refl _, Lib.hid (by simp), Lib.hid (Owned.nil strE_len _ _ _), Below.refl _ _⟩
  case round =>
    obtain ⟨j, M, A', c', hj, rfl, rfl, hm, HP, HO, hb⟩ := hrel
    rename World => wo
    by_cases hlt : j < T.length
    · obtain ⟨b3, o3, v, r, rfl, hbb, hr, hv, hc, ho⟩ := (L1.up hb).at_ hlt
      have hrr := HR.out r (List.mem_of_getElem? hr)
      have hrb : ∀ x ∈ r, 0 ≤ x ∧ x ≤ 9 := fun x hx => by have := hrr.2 x hx; omega
      have hrl : r.length ≤ 8 := by omega
      have hsz := hb.size
      have hos := ofPl_size hrl
      have HRr := Lib.hid hr
      clear hr hv hrr
      go_wp2_with fail
      refine (spec_l2Of rfl ho.recs hrl hrb).mono ?_; rintro e w2 ⟨rfl, hb2⟩
      obtain ⟨s, hs⟩ : ∃ s, s = ofPl r := ⟨_, rfl⟩
      rw [← hs] at hos ⊢
      have HS := Lib.hid hs
      clear hs ho hc hrb
      go_wp2_with fail
      refine (spec_l2Change (by omega) (by unfold I64; omega)).mono ?_; rintro e w' ⟨rfl, rfl⟩
      have hbt := hb.trans (hb2.mono hsz)
      have hsz2 := hb2.size
      rcases hg : goodChange n s
      · have e1 := Lib.hid (filt_miss (f := fun c => goodChange n c) (g := ofPl) HRr.out (by rw [← HS.out]; exact hg))
        go_wp2
        go_roundw
        case rel => exact ⟨j + 1, M, A', c', by omega, by go_num, rfl, by omega, Lib.hid (by rw [e1.out]; exact HP.out), Lib.hid (HO.out.up hb2), hbt⟩
        case measure => simp [intOf]; omega
      · have e1 := Lib.hid (filt_hit (f := fun c => goodChange n c) (g := ofPl) HRr.out (by rw [← HS.out]; exact hg))
        have HO2 := Lib.hid (HO.out.up hb2)
        go_wp2_with (first | (at_builtin; go_must ((refine wpList_append_rec Try.elStr rfl (.tmp 23) (.tmp 25) rfl rfl (HO2.out.alloc _) s rfl (Box.at_ _ [.string s] _ ?_) (strE_one _) ?_ (by decide) ?_ ?_; (focus (first | omega | (simp only [World.size_alloc]; done) | (simp only [World.size_alloc]; omega) | (simp; done) | (simp; omega))); (focus (first | omega | (simp only [World.size_alloc]; done) | (simp only [World.size_alloc]; omega) | (simp; done) | (simp; omega))); (focus (first | omega | (simp only [World.size_alloc]; done) | (simp only [World.size_alloc]; omega) | (simp; done) | (simp; omega))); intro A3 c3 w3 ho3 hg3 hb3))))
        have hb3' : Below w1.heap.size w1 w3 := (hbt.alloc (by omega) _).trans hb3
        have h0 : Hid (Owned strE 1 9 w3 w1.heap.size A3 (M.length + 1) c3 (M.take M.length ++ s :: M.drop M.length)) := Lib.hid (by rw [List.take_of_length_le (Nat.le_refl _), List.drop_length]; exact ho3)
        clear ho3 hg3
        go_loopw [7] (fun k wr => ∃ (q : Nat) (y : ByteArray), q ≤ M.length ∧ k = .int .i64 q ∧ Hid (Owned strE 1 9 wr w1.heap.size A3 (M.length + 1) c3 (M.take q ++ y :: M.drop q)) ∧ Below w1.heap.size w1 wr) (fun k _ => (intOf k).toNat)
        case atStart => exact ⟨M.length, s, Nat.le_refl _, rfl, h0, hb3'⟩
        case round =>
          obtain ⟨q, y, hq, rfl, HQ, hbq⟩ := hrel
          obtain ⟨g, rfl, _, lg, hcell, hfz⟩ := HQ.out.at_ (by omega)
          have cy := hcell q y 0 _ (ins_at hq) rfl
          have fq := hfz q
          have pt := Lib.hid (HQ.out.put (j := 0) (x := s) (u := .string s) (ins_at hq) (by decide) rfl)
          simp only [Nat.mul_one, Nat.add_zero] at cy
          have PT : Hid (Owned strE 1 9 (wr.setCell ⟨g, q, none⟩ (.string s)) w1.heap.size (some ⟨g, 0, none⟩) (M.length + 1) c3 (M.take q ++ s :: M.drop q)) := Lib.hid (by have h := pt.out.1; simp only [Nat.mul_one, Nat.add_zero] at h; rw [ins_set hq] at h; exact h)
          have PB : Below w1.heap.size w1 (wr.setCell ⟨g, q, none⟩ (.string s)) := hbq.setCell (HQ.out.at_own).1 _
          have il := Lib.hid (ins_len (y := s) hq)
          have EP : Hid ((M.take q ++ s :: M.drop q).Perm (((T.take (j + 1)).map ofPl).filter fun c => goodChange n c)) := Lib.hid (by rw [e1.out, ← HS.out]; exact ins_perm.trans (HP.out.append_right [s]))
          rcases q with _ | q
          · clear hcell hfz pt
            go_wp2
            go_roundw
            case rel => exact ⟨j + 1, M.take 0 ++ s :: M.drop 0, _, c3, by omega, by go_num, by rw [il.out], by rw [il.out]; omega, EP, by rw [il.out]; exact PT, PB⟩
            case measure => simp [intOf]; omega
          · obtain ⟨z, hz⟩ := some_of_lt (l := M) (k := q) (by omega)
            have cz := hcell q z 0 _ ((ins_before (by omega)).trans hz) rfl
            simp only [Nat.mul_one, Nat.add_zero] at cz
            have HZ := Lib.hid (ins_down (y := y) hz)
            clear hcell hfz pt hz
            rcases hgt : less s z
            · obtain ⟨l1, l2⟩ := less_no hgt
              rcases l2 with l2 | ⟨l2, l3⟩
              all_goals
                go_wp2
                go_roundw
                case rel => exact ⟨j + 1, M.take (q + 1) ++ s :: M.drop (q + 1), _, c3, by omega, by go_num, by rw [il.out], by rw [il.out]; omega, EP, by rw [il.out]; exact PT, PB⟩
                case measure => simp [intOf]; omega
            · obtain ⟨l1, l2, l3⟩ := less_yes hgt
              have PZ := Lib.hid (HQ.out.put (j := 0) (x := z) (u := .string z) (ins_at hq) (by decide) rfl)
              have PZ2 : Hid (Owned strE 1 9 (wr.setCell ⟨g, q + 1, none⟩ (.string z)) w1.heap.size (some ⟨g, 0, none⟩) (M.length + 1) c3 (M.take q ++ z :: M.drop q)) := Lib.hid (by have h := PZ.out.1; simp only [Nat.mul_one, Nat.add_zero] at h; rw [HZ.out] at h; exact h)
              have PZ3 : Below w1.heap.size w1 (wr.setCell ⟨g, q + 1, none⟩ (.string z)) := hbq.setCell (HQ.out.at_own).1 _
              clear PZ
              go_wp2
              go_roundw
              case rel => exact ⟨q, z, by omega, rfl, PZ2, PZ3⟩
              case measure => simp [intOf]
    · obtain rfl : j = T.length := by omega
      go_wp2
      go_ret
      have h := HP.out
      rw [List.take_of_length_le (Nat.le_refl _), ← HC.out] at h
      exact ⟨_, _, M, rfl, HO.out.base_le hb1.size, h, below_go hb1 hb⟩
end Go.Proofs.Ytpccbmndgdiloaa
