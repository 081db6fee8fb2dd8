/- What the check of a table of remaining costs computes, as plain functions. -/
import Derived.Test.YtdnbdnfoogjcmaaP22t
namespace Go.Proofs.Ytdnbdnfoogjcmaa
set_option linter.unusedVariables false
set_option linter.unusedSimpArgs false
def rowB (m : Nat) (r : List Int) : Bool := decide (r.length = m + 1) && allIn r 0 100000000
def okRowB (m : Nat) (T : List (List Int)) (i : Nat) : Bool := rowB m (T.getD i [])
def shapeB (n m : Nat) (T : List (List Int)) : Bool := (List.range T.length).all (okRowB m T) && decide (T.length = n + 1)
theorem okRowB_at {m : Nat} {T : List (List Int)} {i : Nat} {r : List Int} (h : T[i]? = some r) : okRowB m T i = rowB m r := by simp [okRowB, List.getD, h]
def tc (T : List (List Int)) (i j : Nat) : Int := (T.getD i []).getD j 0
theorem tc_at {T : List (List Int)} {i j : Nat} {r : List Int} {x : Int} (h : T[i]? = some r) (hx : r[j]? = some x) : tc T i j = x := by simp [tc, List.getD, h, hx]
theorem shapeB_t {n m : Nat} {T : List (List Int)} (h : shapeB n m T = true) : T.length = n + 1 ∧ ∀ i, i < n + 1 → ∃ r, T[i]? = some r ∧ r.length = m + 1 ∧ ∀ j, j < m + 1 → r[j]? = some (tc T i j) ∧ 0 ≤ tc T i j ∧ tc T i j ≤ 100000000 := by
  simp only [shapeB, Bool.and_eq_true, decide_eq_true_eq, List.all_eq_true, List.mem_range] at h
  refine ⟨h.2, fun i hi => ?_⟩
  have hT : T[i]? = some (T[i]'(by omega)) := List.getElem?_eq_getElem (by omega)
  have h1 := h.1 i (by omega)
  rw [okRowB_at hT, rowB, Bool.and_eq_true, decide_eq_true_eq] at h1
  refine ⟨_, hT, h1.1, fun j hj => ?_⟩
  have hr : (T[i]'(by omega))[j]? = some ((T[i]'(by omega))[j]'(by omega)) := List.getElem?_eq_getElem (by omega)
  rw [tc_at hT hr]
  exact ⟨hr, allIn_t h1.2 hr⟩
/-- Each of the three steps. -/
def badA (s : Int) (T : List (List Int)) (i j : Nat) : Bool := decide (tc T i j > s + tc T (i + 1) j)
def badB (s : Int) (T : List (List Int)) (i j : Nat) : Bool := decide (tc T i j > s + tc T i (j + 1))
def badC (a b : List Int) (T : List (List Int)) (i j : Nat) : Bool := decide (tc T i j > absZ (a.getD i 0 - b.getD j 0) + tc T (i + 1) (j + 1))
def okCell (a b : List Int) (s : Int) (T : List (List Int)) (i j : Nat) : Bool :=
  !((decide (i < a.length) && badA s T i j) || (decide (j < b.length) && badB s T i j) || ((decide (i < a.length) && decide (j < b.length)) && badC a b T i j))
theorem okCell_A {a b : List Int} {s : Int} {T : List (List Int)} {i j : Nat} (hi : i < a.length) (q : s + tc T (i + 1) j < tc T i j) : okCell a b s T i j = false := by
  have : badA s T i j = true := decide_eq_true q
  simp [okCell, hi, this]
theorem okCell_B {a b : List Int} {s : Int} {T : List (List Int)} {i j : Nat} (hj : j < b.length) (q : s + tc T i (j + 1) < tc T i j) : okCell a b s T i j = false := by
  have : badB s T i j = true := decide_eq_true q
  simp [okCell, hj, this]
theorem okCell_C {a b : List Int} {s x y : Int} {T : List (List Int)} {i j : Nat} (hx : a[i]? = some x) (hy : b[j]? = some y) (q : absZ (x - y) + tc T (i + 1) (j + 1) < tc T i j) : okCell a b s T i j = false := by
  have hi := (List.getElem?_eq_some_iff.1 hx).1
  have hj := (List.getElem?_eq_some_iff.1 hy).1
  have : badC a b T i j = true := by
    rw [badC, List.getD, List.getD, hx, hy]; exact decide_eq_true q
  simp [okCell, hi, hj, this]
theorem okCell_ok {a b : List Int} {s : Int} {T : List (List Int)} {i j : Nat} (h1 : i < a.length → ¬ s + tc T (i + 1) j < tc T i j) (h2 : j < b.length → ¬ s + tc T i (j + 1) < tc T i j)
    (h3 : ∀ x y, a[i]? = some x → b[j]? = some y → ¬ absZ (x - y) + tc T (i + 1) (j + 1) < tc T i j) : okCell a b s T i j = true := by
  rw [okCell]
  have e1 : (decide (i < a.length) && badA s T i j) = false := by
    by_cases hi : i < a.length
    · have : badA s T i j = false := decide_eq_false (h1 hi)
      rw [this, Bool.and_false]
    · rw [decide_eq_false hi, Bool.false_and]
  have e2 : (decide (j < b.length) && badB s T i j) = false := by
    by_cases hj : j < b.length
    · have : badB s T i j = false := decide_eq_false (h2 hj)
      rw [this, Bool.and_false]
    · rw [decide_eq_false hj, Bool.false_and]
  have e3 : ((decide (i < a.length) && decide (j < b.length)) && badC a b T i j) = false := by
    by_cases hi : i < a.length
    · by_cases hj : j < b.length
      · have hx := List.getElem?_eq_getElem hi
        have hy := List.getElem?_eq_getElem hj
        have : badC a b T i j = false := by rw [badC, List.getD, List.getD, hx, hy]; exact decide_eq_false (h3 _ _ hx hy)
        rw [this, Bool.and_false]
      · rw [decide_eq_false hj, Bool.and_false, Bool.false_and]
    · rw [decide_eq_false hi, Bool.false_and, Bool.false_and]
  rw [e1, e2, e3]; rfl
def okLine (a b : List Int) (s : Int) (T : List (List Int)) (i : Nat) : Bool := (List.range (b.length + 1)).all (okCell a b s T i)
def boundB (a b : List Int) (s : Int) (T : List (List Int)) : Bool := (List.range (a.length + 1)).all (okLine a b s T)
theorem boundB_bad {a b : List Int} {s : Int} {T : List (List Int)} {i j : Nat} (hi : i < a.length + 1) (hj : j < b.length + 1) (h : okCell a b s T i j = false) : boundB a b s T = false := by
  have h1 : okLine a b s T i = false := by
    rw [Bool.eq_false_iff]; intro ha
    rw [okLine, List.all_eq_true] at ha
    rw [ha j (List.mem_range.2 hj)] at h; cases h
  rw [Bool.eq_false_iff]; intro ha
  rw [boundB, List.all_eq_true] at ha
  rw [ha i (List.mem_range.2 hi)] at h1; cases h1
theorem okLine_t {a b : List Int} {s : Int} {T : List (List Int)} {i : Nat} (h : ∀ j, j < b.length + 1 → okCell a b s T i j = true) : okLine a b s T i = true := by
  rw [okLine, List.all_eq_true]; exact fun j hj => h j (List.mem_range.1 hj)
theorem boundB_t {a b : List Int} {s : Int} {T : List (List Int)} (h : ∀ i, i < a.length + 1 → okLine a b s T i = true) : boundB a b s T = true := by
  rw [boundB, List.all_eq_true]; exact fun j hj => h j (List.mem_range.1 hj)
def cpOk (a b : List Int) (s : Int) (T : List (List Int)) : Bool := askedM a b s && shapeB a.length b.length T
def cpV (a b : List Int) (s : Int) (T : List (List Int)) (of : List Int) (cost : Int) : Bool :=
  boundB a b s T && ((tc T a.length b.length == 0) && (wayB a.length b.length of && ((cost == tc T 0 0) && (cost == costZ a b of s))))
def cpR (a b : List Int) (s : Int) (T : List (List Int)) (of : List Int) (cost : Int) : Bool := cpOk a b s T && cpV a b s T of cost
theorem cpV_b {a b : List Int} {s : Int} {T : List (List Int)} {of : List Int} {cost : Int} (h : boundB a b s T = false) : cpV a b s T of cost = false := by simp [cpV, h]
theorem cp_f {a b : List Int} {s : Int} {T : List (List Int)} {of : List Int} {cost : Int} (h : cpOk a b s T = false) : cpR a b s T of cost = false := by simp [cpR, h]
theorem cp_t {a b : List Int} {s : Int} {T : List (List Int)} {of : List Int} {cost : Int} (h : cpOk a b s T = true) : cpR a b s T of cost = cpV a b s T of cost := by simp [cpR, h]
end Go.Proofs.Ytdnbdnfoogjcmaa
