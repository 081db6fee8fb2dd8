/- Signs: a change turns the sign of a row as often as it swaps; the sign of a product. -/
import Derived.Test.YtmdmnjjlpefigaaP08
namespace Go.Proofs.Ytmdmnjjlpefigaa
set_option linter.unusedVariables false
set_option linter.unusedSimpArgs false
open Go.ChangeShapes Go.WideShapes Go.ChangeAt Go.RowKit Go.Deep
def invs : List Int → Nat
  | [] => 0
  | x :: r => cnt x r + invs r
def gt (y : Int) (l : List Int) : Nat := l.countP fun z => decide (y < z)
theorem gt_cons (y z : Int) (l : List Int) : gt y (z :: l) = gt y l + (if y < z then 1 else 0) := by
  rw [gt, List.countP_cons, gt]
  by_cases h : y < z <;> simp [h]
theorem cnt_snoc (x y : Int) (l : List Int) : cnt x (l ++ [y]) = cnt x l + (if y < x then 1 else 0) := by
  rw [cnt, List.countP_append, cnt]
  by_cases h : y < x <;> simp [h]
theorem invs_snoc (y : Int) : ∀ l : List Int, invs (l ++ [y]) = invs l + gt y l
  | [] => by simp [invs, gt, cnt]
  | x :: r => by
    rw [List.cons_append, invs, invs_snoc y r, cnt_snoc, invs, gt_cons]
    omega
theorem drop_someZ {α : Type} {l : List α} {k : Nat} {x : α} (h : l[k]? = some x) : l.drop k = x :: l.drop (k + 1) := by
  rw [List.drop_eq_getElem_cons (List.getElem?_eq_some_iff.1 h).1, (List.getElem?_eq_some_iff.1 h).2]
def evB (n : Nat) : Bool := decide (n % 2 = 0)
theorem evB_succ (n : Nat) : evB (n + 1) = !evB n := by
  simp only [evB]
  by_cases h : n % 2 = 0
  · rw [decide_eq_true h, decide_eq_false (by omega)]; rfl
  · rw [decide_eq_false h, decide_eq_true (by omega)]; rfl
theorem tg_gt (s : ByteArray) (i : Nat) (c : Nat) : ∀ k, k ≤ s.size → tg s i k (evB c) = evB (c + gt (PlainAid.bt s i) ((nums s).take k))
  | 0, _ => by simp [tg, gt]
  | k + 1, h => by
    have ih := tg_gt s i c k (by omega)
    have e : (nums s).take (k + 1) = (nums s).take k ++ [PlainAid.bt s k] := take_succ_some (nums_at (by omega))
    have e2 : gt (PlainAid.bt s i) ((nums s).take k ++ [PlainAid.bt s k]) = gt (PlainAid.bt s i) ((nums s).take k) + (if PlainAid.bt s i < PlainAid.bt s k then 1 else 0) := by
      rw [gt, List.countP_append, gt]
      by_cases h : PlainAid.bt s i < PlainAid.bt s k <;> simp [h]
    rw [e, e2]
    by_cases hlt : PlainAid.bt s i < PlainAid.bt s k
    · rw [tg_yes hlt, ih, if_pos hlt, ← Nat.add_assoc, evB_succ]
    · rw [tg_no hlt, ih, if_neg hlt, Nat.add_zero]
theorem evo_invs (s : ByteArray) : ∀ k, k ≤ s.size → evo s k = evB (invs ((nums s).take k))
  | 0, _ => by simp [evo, invs, evB]
  | k + 1, h => by
    have e : (nums s).take (k + 1) = (nums s).take k ++ [PlainAid.bt s k] := take_succ_some (nums_at (by omega))
    rw [evo, evo_invs s k (by omega), tg_gt s k _ k (by omega), e, invs_snoc]
theorem even_invs (s : ByteArray) : evenRow s = evB (invs (nums s)) := by
  rw [evenRow, evo_invs s _ (Nat.le_refl _), List.take_of_length_le (by rw [nums_len]; exact Nat.le_refl _)]
theorem cnt_swap (z x y : Int) (q : List Int) : cnt z (x :: y :: q) = cnt z (y :: x :: q) := by
  rw [cnt_cons, cnt_cons, cnt_cons, cnt_cons]; omega
theorem invs_swap {x y : Int} (h : x ≠ y) (q : List Int) : ∀ p : List Int, evB (invs (p ++ x :: y :: q)) = !evB (invs (p ++ y :: x :: q))
  | [] => by
    simp only [List.nil_append, invs, cnt_cons]
    rcases Int.lt_or_lt_of_ne h with h1 | h1
    · rw [if_neg (by omega), if_pos h1]
      rw [show cnt x q + 0 + (cnt y q + invs q) = cnt x q + cnt y q + invs q by omega, show cnt y q + 1 + (cnt x q + invs q) = (cnt x q + cnt y q + invs q) + 1 by omega, evB_succ, Bool.not_not]
    · rw [if_pos h1, if_neg (by omega)]
      rw [show cnt x q + 1 + (cnt y q + invs q) = (cnt x q + cnt y q + invs q) + 1 by omega, show cnt y q + 0 + (cnt x q + invs q) = cnt x q + cnt y q + invs q by omega, evB_succ]
  | z :: p => by
    have ih := invs_swap h q p
    have hc : cnt z (p ++ x :: y :: q) = cnt z (p ++ y :: x :: q) := by
      rw [cnt, cnt, List.countP_append, List.countP_append]
      congr 1
      exact cnt_swap z x y q
    have key : ∀ a b c : Nat, evB a = !evB b → evB (c + a) = !evB (c + b) := fun a b c e => by
      induction c with
      | zero => simpa using e
      | succ c ih => rw [Nat.add_right_comm, Nat.add_right_comm c 1 b, evB_succ, evB_succ, ih]
    rw [List.cons_append, List.cons_append, invs, invs, hc]
    exact key _ _ _ ih
theorem invs_set {l : List Int} {p : Nat} {x y : Int} (hx : l[p]? = some x) (hy : l[p + 1]? = some y) (h : x ≠ y) : evB (invs ((l.set p y).set (p + 1) x)) = !evB (invs l) := by
  have hp := (List.getElem?_eq_some_iff.1 hy).1
  have e1 : l = l.take p ++ x :: y :: l.drop (p + 2) := by
    conv => lhs; rw [← List.take_append_drop p l]
    congr 1
    rw [drop_someZ hx, drop_someZ hy]
  have e2 : (l.set p y).set (p + 1) x = l.take p ++ y :: x :: l.drop (p + 2) := by
    have ht : (l.take p).length = p := by rw [List.length_take]; omega
    conv => lhs; rw [e1]
    rw [List.set_append_right _ _ (by omega), ht, Nat.sub_self, List.set_cons_zero, List.set_append_right _ _ (by omega), ht, Nat.add_sub_cancel_left, List.set_cons_succ, List.set_cons_zero]
  rw [e2, invs_swap (fun e => h e.symm)]
  conv => rhs; rw [e1]
/-- How often the first k swaps turn. -/
theorem rowV_take {n : Nat} {sw : List Int} (hin : ∀ x ∈ sw, ((1 : Nat) : Int) ≤ x ∧ x < n) (hfar : sw.Pairwise fun x y => x + 2 ≤ y) {a : ByteArray} (ha : isRowL (nums a)) (hn : a.size = n) :
    ∀ k, k ≤ sw.length → evB (invs ((rowV n (sw.take k)).map fun z => PlainAid.bt a (z - 49).toNat)) = (evB (invs (nums a)) == evB k)
  | 0, _ => by
    have e : ((rowV n []).map fun z => PlainAid.bt a (z - 49).toNat) = nums a := by
      apply List.ext_getElem (by rw [List.length_map, rowV_len, nums_len, hn])
      intro i h1 h2
      simp only [rowV, List.getElem_map, List.getElem_range, nums]
      congr 1
      simp [cval]
      omega
    rw [List.take_zero, e]
    rcases evB (invs (nums a)) <;> rfl
  | k + 1, h => by
    have ih := rowV_take hin hfar ha hn k (by omega)
    have hy : sw[k]? = some sw[k] := List.getElem?_eq_getElem (by omega)
    have hyin := hin _ (List.mem_of_getElem? hy)
    obtain ⟨q, hq⟩ : ∃ q : Nat, sw[k] = (q : Int) + 1 := ⟨(sw[k] - 1).toNat, by omega⟩
    have hqn : q + 1 < n := by omega
    have hfr : ∀ x ∈ sw.take k, x + 2 ≤ ((q + 1 : Nat) : Int) := fun x hx => by have := take_far hfar hy x hx; omega
    have hpl := rowV_plain hqn hfr
    have ht : sw.take (k + 1) = sw.take k ++ [((q + 1 : Nat) : Int)] := by rw [take_succ_some hy, hq]; rfl
    rw [ht, rowV_step (p := q + 1) (by omega) hqn hfr, Nat.add_sub_cancel, List.map_set, List.map_set]
    have b1 : PlainAid.bt a ((49 + ((q + 1 : Nat) : Int)) - 49).toNat = PlainAid.bt a (q + 1) := by congr 1; omega
    have b2 : PlainAid.bt a ((48 + ((q + 1 : Nat) : Int)) - 49).toNat = PlainAid.bt a q := by congr 1; omega
    have b3 : PlainAid.bt a ((49 + (q : Int)) - 49).toNat = PlainAid.bt a q := by congr 1; omega
    have b4 : PlainAid.bt a ((49 + ((q : Int) + 1)) - 49).toNat = PlainAid.bt a (q + 1) := by congr 1; omega
    rw [b1, b2]
    have m1 : ((rowV n (sw.take k)).map fun z => PlainAid.bt a (z - 49).toNat)[q]? = some (PlainAid.bt a q) := by
      rw [List.getElem?_map, hpl.1]
      show some (PlainAid.bt a ((49 + (q : Int)) - 49).toNat) = _
      rw [b3]
    have m2 : ((rowV n (sw.take k)).map fun z => PlainAid.bt a (z - 49).toNat)[q + 1]? = some (PlainAid.bt a (q + 1)) := by
      rw [List.getElem?_map, hpl.2]
      show some (PlainAid.bt a ((49 + ((q : Int) + 1)) - 49).toNat) = _
      rw [b4]
    have hne : PlainAid.bt a q ≠ PlainAid.bt a (q + 1) := by
      have hp := ha.1
      rw [List.nodup_iff_pairwise_ne, List.pairwise_iff_getElem] at hp
      have := hp q (q + 1) (by rw [nums_len]; omega) (by rw [nums_len]; omega) (by omega)
      have h1 := nums_at (s := a) (k := q) (by omega); have h2 := nums_at (s := a) (k := q + 1) (by omega)
      rw [List.getElem?_eq_getElem (by rw [nums_len]; omega)] at h1 h2
      injection h1 with h1; injection h2 with h2
      rw [← h1, ← h2]; exact this
    rw [invs_set m1 m2 hne, ih, evB_succ]
    rcases evB (invs (nums a)) <;> rcases evB k <;> rfl
theorem sign_apply {a : ByteArray} (h : goodRow a = true) (c : ByteArray) : evenRow (applyR a c) = (evenRow a == evenSwaps a.size c) := by
  have hn := goodRow_n h
  have hr := goodRow_list h
  have h2 := rowL_times hr (by rw [chRow, nums_strOf (rowL_bytes (rowL_ch a.size c) (by rw [rowV_len]; omega))]; exact rowL_ch a.size c) (chRow_size a.size c).symm
  have e1 : nums (applyR a c) = (rowV a.size (swaps a.size c)).map fun z => PlainAid.bt a (z - 49).toNat := by
    rw [applyR, timesS, nums_strOf (rowL_bytes h2 (by rw [timesL_len, chRow_size]; omega)), timesL, chRow, nums_strOf (rowL_bytes (rowL_ch a.size c) (by rw [rowV_len]; omega))]
  have e2 := rowV_take (sws_in (stays c) a.size 1) (sws_far (stays c) a.size 1) hr rfl (swaps a.size c).length (Nat.le_refl _)
  rw [show sws (stays c) a.size 1 = swaps a.size c from rfl, List.take_of_length_le (Nat.le_refl _)] at e2
  rw [even_invs, e1, e2, even_invs]
  rfl
/-! products -/
theorem nums_times {a b : ByteArray} (h : goodRow a = true) (g : goodRow b = true) (e : a.size = b.size) : nums (timesS a b) = timesL a b := by
  have hn := goodRow_n h
  rw [timesS, nums_strOf (rowL_bytes (rowL_times (goodRow_list h) (goodRow_list g) e) (by rw [timesL_len]; omega))]
theorem times_assoc {a b c : ByteArray} (ha : goodRow a = true) (hb : goodRow b = true) (hc : goodRow c = true) (e1 : a.size = b.size) (e2 : b.size = c.size) : timesS a (timesS b c) = timesS (timesS a b) c := by
  suffices h : timesL a (timesS b c) = timesL (timesS a b) c by
    show strOfNums (timesL a (timesS b c)) = strOfNums (timesL (timesS a b) c)
    rw [h]
  show (nums (timesS b c)).map _ = (nums c).map _
  rw [nums_times hb hc e2, timesL, List.map_map]
  apply List.map_congr_left
  intro z hz
  have hz2 := (goodRow_list hc).2 z hz
  rw [nums_len] at hz2
  have hk : (z - 49).toNat < b.size := by omega
  have h1 := timesL_at (a := a) hk
  rw [← nums_times ha hb e1, nums_at (by rw [timesS, strOfNums_size, timesL_len]; exact hk)] at h1
  injection h1 with h1
  rw [h1]; rfl
theorem times_rounds {a : ByteArray} (h : goodRow a = true) : timesS a (roundsS a.size) = a := by
  have hn := goodRow_n h
  apply nums_inj
  rw [nums_times h (good_rounds _ (by omega) (by omega)) (rounds_size _ (by omega)).symm, timesL, rowV_nil _ (by omega)]
  apply List.ext_getElem (by rw [List.length_map, rowV_len, nums_len])
  intro i h1 h2
  simp only [rowV, List.getElem_map, List.getElem_range, nums]
  congr 1
  simp [cval]
  omega
theorem times_apply {a b : ByteArray} (ha : goodRow a = true) (hb : goodRow b = true) (e : a.size = b.size) (c : ByteArray) : timesS a (applyR b c) = applyR (timesS a b) c := by
  have hs : (timesS a b).size = b.size := by rw [timesS, strOfNums_size, timesL_len]
  rw [applyR, applyR, hs, times_assoc ha hb (good_ch (goodRow_n hb) c) e (chRow_size _ _).symm]
theorem sign_times_rAt {a : ByteArray} (ha : goodRow a = true) (l : List ByteArray) : ∀ k, evenRow (timesS a (rAt (roundsS a.size) l k)) = (evenRow a == evenRow (rAt (roundsS a.size) l k))
  | 0 => by
    rw [rAt, times_rounds ha]
    have : ∀ n, n < 9 → evenRow (roundsS n) = true := of_decide_eq_true (by kernel_rfl)
    rw [this _ (by have := goodRow_n ha; omega)]
    rcases evenRow a <;> rfl
  | k + 1 => by
    have hn := goodRow_n ha
    have hg := good_rAt (good_rounds a.size (by omega) (by omega)) l k
    have hs : (rAt (roundsS a.size) l k).size = a.size := by rw [rAt_size, rounds_size _ (by omega)]
    have ht : (timesS a (rAt (roundsS a.size) l k)).size = a.size := by rw [timesS, strOfNums_size, timesL_len, hs]
    rw [rAt, times_apply ha hg hs.symm, sign_apply (good_times ha hg hs.symm), sign_apply hg, sign_times_rAt ha l k, ht, hs]
    rcases evenRow a <;> rcases evenRow (rAt (roundsS a.size) l k) <;> rcases evenSwaps a.size _ <;> rfl
theorem sign_times_head {a : ByteArray} (ha : goodRow a = true) {l : List ByteArray} (x : ByteArray) (h : 0 < l.length) : evenRow (timesS a (headX a.size l x)) = (evenRow a == evenRow (headX a.size l x)) := by
  have := sign_times_rAt ha (l.set (l.length - 1) x) l.length
  rwa [headX_set h] at this
end Go.Proofs.Ytmdmnjjlpefigaa
