/- Rows that changes make, as plain functions. -/
import Derived.Test.YtoheahbkopbmhaaDoorP01
import Derived.Test.YtoheahbkopbmhaaDoorBytes
namespace Go.Proofs.YtoheahbkopbmhaaDoor
set_option linter.unusedVariables false
set_option linter.unusedSimpArgs false
open Go.ChangeShapes Go.WideShapes Go.ChangeAt Go.RowKit Go.Deep
def roundsS (n : Nat) : ByteArray := (ByteArray.mk #[49, 50, 51, 52, 53, 54, 55, 56]).extract 0 n
def cval (l : List Int) (j : Nat) : Int := if l.contains ((j : Int) + 1) then 50 + j else if l.contains (j : Int) then 48 + j else 49 + j
def rowV (n : Nat) (l : List Int) : List Int := (List.range n).map (cval l)
theorem rowV_len (n : Nat) (l : List Int) : (rowV n l).length = n := by simp [rowV]
theorem rowV_nil : ∀ n, n < 9 → nums (roundsS n) = rowV n [] := of_decide_eq_true (by kernel_rfl)
theorem rounds_size : ∀ n, n < 9 → (roundsS n).size = n := of_decide_eq_true (by kernel_rfl)
theorem rowV_step {n p : Nat} {l : List Int} (hp : 1 ≤ p) (hn : p < n) (hl : ∀ x ∈ l, x + 2 ≤ (p : Int)) :
    rowV n (l ++ [(p : Int)]) = ((rowV n l).set (p - 1) (49 + p)).set p (48 + p) := by
  apply List.ext_getElem (by simp [rowV])
  intro j h1 h2
  simp only [rowV, List.length_map, List.length_range] at h1
  rw [List.getElem_set, List.getElem_set]
  simp only [rowV, List.getElem_map, List.getElem_range]
  have hc : ∀ x : Int, (l ++ [(p : Int)]).contains x = (l.contains x || (x == p)) := fun x => by rw [Bool.eq_iff_iff]; simp
  have hno : ∀ x : Int, (p : Int) ≤ x + 1 → l.contains x = false := fun x hx => by
    rw [Bool.eq_false_iff]
    intro h
    have := hl x (by simpa using h)
    omega
  by_cases e1 : p = j
  · subst e1
    rw [if_pos rfl, cval, hc, hc, hno _ (by omega), hno _ (by omega)]
    have a : (((p : Int) + 1) == (p : Int)) = false := beq_eq_false_iff_ne.2 (by omega)
    rw [a]
    simp
  · rw [if_neg e1]
    by_cases e2 : p - 1 = j
    · rw [if_pos e2, cval, hc]
      have a : (((j : Int) + 1) == (p : Int)) = true := beq_iff_eq.2 (by omega)
      rw [a]
      simp
      omega
    · rw [if_neg e2, cval, cval, hc, hc]
      have a : (((j : Int) + 1) == (p : Int)) = false := beq_eq_false_iff_ne.2 (by omega)
      have b : ((j : Int) == (p : Int)) = false := beq_eq_false_iff_ne.2 (by omega)
      rw [a, b, Bool.or_false, Bool.or_false]
theorem rowV_plain {n q : Nat} {l : List Int} (hn : q + 1 < n) (hl : ∀ x ∈ l, x + 2 ≤ ((q + 1 : Nat) : Int)) :
    (rowV n l)[q]? = some (49 + (q : Int)) ∧ (rowV n l)[q + 1]? = some (49 + ((q : Int) + 1)) := by
  have hno : ∀ x : Int, (q : Int) ≤ x → l.contains x = false := fun x hx => by
    rw [Bool.eq_false_iff]
    intro h
    have := hl x (by simpa using h)
    omega
  constructor
  · rw [rowV, List.getElem?_map, List.getElem?_range (by omega)]
    show some (cval l q) = _
    rw [cval, hno _ (by omega), hno _ (by omega)]
    rfl
  · rw [rowV, List.getElem?_map, List.getElem?_range (by omega)]
    show some (cval l (q + 1)) = _
    rw [cval, hno _ (by omega), hno _ (by omega)]
    rfl
def chRow (n : Nat) (c : ByteArray) : ByteArray := strOfNums (rowV n (swaps n c))
theorem strOfNums_size (l : List Int) : (strOfNums l).size = l.length := by
  simp [strOfNums, ByteArray.size]
theorem chRow_size (n : Nat) (c : ByteArray) : (chRow n c).size = n := by rw [chRow, strOfNums_size, rowV_len]
/-! the swaps' places -/
theorem sws_in (st : Int → Bool) (n : Nat) : ∀ p, ∀ x ∈ sws st n p, (p : Int) ≤ x ∧ x < n := by
  intro p
  induction p using sws.induct st n with
  | case1 p h hs ih => rw [sws_stay h hs]; intro x hx; have := ih x hx; omega
  | case2 p h hs ih =>
    rw [sws_swap h (by simpa using hs)]
    intro x hx
    rcases List.mem_cons.1 hx with rfl | hx
    · omega
    · have := ih x hx; omega
  | case3 p h => rw [sws_end h]; intro x hx; cases hx
theorem sws_far (st : Int → Bool) (n : Nat) : ∀ p, (sws st n p).Pairwise fun x y => x + 2 ≤ y := by
  intro p
  induction p using sws.induct st n with
  | case1 p h hs ih => rw [sws_stay h hs]; exact ih
  | case2 p h hs ih =>
    rw [sws_swap h (by simpa using hs), List.pairwise_cons]
    exact ⟨fun x hx => by have := sws_in st n (p + 2) x hx; omega, ih⟩
  | case3 p h => rw [sws_end h]; exact List.Pairwise.nil
/-! a row through another -/
def timesL (a b : ByteArray) : List Int := (nums b).map fun z => PlainAid.bt a (z - 49).toNat
def timesS (a b : ByteArray) : ByteArray := strOfNums (timesL a b)
theorem timesL_len (a b : ByteArray) : (timesL a b).length = b.size := by rw [timesL, List.length_map, nums_len]
theorem timesL_at {a b : ByteArray} {k : Nat} (h : k < b.size) : (timesL a b)[k]? = some (PlainAid.bt a (PlainAid.bt b k - 49).toNat) := by
  rw [timesL, List.getElem?_map, nums_at h]; rfl
def fits (a b : ByteArray) : Prop := ∀ k, k < b.size → 49 ≤ PlainAid.bt b k ∧ PlainAid.bt b k ≤ 48 + a.size
/-- The swaps before the k-th lie two places or more below it. -/
theorem take_far {l : List Int} (h : l.Pairwise fun x y => x + 2 ≤ y) {k : Nat} {y : Int} (hy : l[k]? = some y) : ∀ x ∈ l.take k, x + 2 ≤ y := by
  intro x hx
  obtain ⟨i, hi⟩ := List.getElem?_of_mem hx
  have hk := (List.getElem?_eq_some_iff.1 hy).1
  have hik : i < k := by
    have := (List.getElem?_eq_some_iff.1 hi).1
    rw [List.length_take] at this
    omega
  rw [List.getElem?_take, if_pos hik] at hi
  rw [List.pairwise_iff_getElem] at h
  have h1 := h i k (by omega) hk hik
  rw [List.getElem?_eq_getElem (by omega)] at hi
  rw [List.getElem?_eq_getElem hk] at hy
  injection hi with hi
  injection hy with hy
  rw [hi, hy] at h1
  exact h1
theorem cval_in {n j : Nat} {l : List Int} (hj : j < n) (hl : ∀ x ∈ l, ((1 : Nat) : Int) ≤ x ∧ x < n) : 49 ≤ cval l j ∧ cval l j ≤ 48 + n := by
  rw [cval]
  rcases h1 : l.contains ((j : Int) + 1)
  · rw [if_neg (by simp)]
    rcases h2 : l.contains (j : Int)
    · rw [if_neg (by simp)]; omega
    · rw [if_pos rfl]
      have := hl _ (by simpa using h2)
      omega
  · rw [if_pos rfl]
    have := hl _ (by simpa using h1)
    omega
theorem chRow_fits {a : ByteArray} (ha : a.size ≤ 8) (c : ByteArray) : fits a (chRow a.size c) := by
  intro k hk
  rw [chRow_size] at hk
  have hc : ∀ j, j < a.size → 49 ≤ cval (swaps a.size c) j ∧ cval (swaps a.size c) j ≤ 48 + (a.size : Int) := fun j hj => cval_in hj (sws_in (stays c) a.size 1)
  have h1 : ∀ x ∈ rowV a.size (swaps a.size c), 0 ≤ x ∧ x < 256 := by
    intro x hx
    simp only [rowV, List.mem_map, List.mem_range] at hx
    obtain ⟨j, hj, rfl⟩ := hx
    have := hc j hj
    omega
  have h2 : (rowV a.size (swaps a.size c))[k]? = some (cval (swaps a.size c) k) := by simp [rowV, hk]
  rw [chRow, bt_strOf h1 h2]
  exact hc k hk
def applyR (a c : ByteArray) : ByteArray := timesS a (chRow a.size c)
theorem applyR_size (a c : ByteArray) : (applyR a c).size = a.size := by rw [applyR, timesS, strOfNums_size, timesL_len, chRow_size]
/-- The row behind the first k changes. -/
def rAt (a : ByteArray) (cs : List ByteArray) : Nat → ByteArray
  | 0 => a
  | k + 1 => applyR (rAt a cs k) (cs.getD k ByteArray.empty)
theorem rAt_size (a : ByteArray) (cs : List ByteArray) : ∀ k, (rAt a cs k).size = a.size
  | 0 => rfl
  | k + 1 => by rw [rAt, applyR_size, rAt_size a cs k]
theorem rAt_succ {a : ByteArray} {cs : List ByteArray} {k : Nat} {c : ByteArray} (h : cs[k]? = some c) : rAt a cs (k + 1) = applyR (rAt a cs k) c := by
  rw [rAt, List.getD, h]; rfl
theorem rAt_take (a : ByteArray) (cs : List ByteArray) (m : Nat) : ∀ k, k ≤ m → rAt a (cs.take m) k = rAt a cs k
  | 0, _ => rfl
  | k + 1, h => by
    rw [rAt, rAt, rAt_take a cs m k (by omega), List.getD, List.getD, List.getElem?_take, if_pos (by omega)]
def rowsL (a : ByteArray) (cs : List ByteArray) (k : Nat) : List ByteArray := (List.range k).map (rAt a cs)
theorem rowsL_len (a : ByteArray) (cs : List ByteArray) (k : Nat) : (rowsL a cs k).length = k := by simp [rowsL]
theorem rowsL_succ (a : ByteArray) (cs : List ByteArray) (k : Nat) : rowsL a cs (k + 1) = rowsL a cs k ++ [rAt a cs k] := by
  rw [rowsL, List.range_succ, List.map_append]; rfl
theorem rowsL_take (a : ByteArray) (cs : List ByteArray) (m : Nat) : rowsL a (cs.take m) (m + 1) = rowsL a cs (m + 1) := by
  apply List.map_congr_left
  intro k hk
  exact rAt_take a cs m k (by have := List.mem_range.1 hk; omega)
def okFrom (n : Int) (cs : List ByteArray) : Bool := allCh n cs && (inB n 3 8 && inB cs.length 1 800)
def fromR (n : Int) (cs : List ByteArray) : List ByteArray := if okFrom n cs = true then rowsL (roundsS n.toNat) cs cs.length else []
theorem fromR_f {n : Int} {cs : List ByteArray} (h : okFrom n cs = false) : fromR n cs = [] := by rw [fromR, if_neg (by rw [h]; simp)]
theorem fromR_t {m : Nat} {cs : List ByteArray} (h : okFrom m cs = true) : fromR m cs = rowsL (roundsS m) cs cs.length := by rw [fromR, if_pos h]; rfl
end Go.Proofs.YtoheahbkopbmhaaDoor
