/- The table of remaining costs and the best match, as plain functions on lists. -/
import Derived.Test.YtdnbdnfoogjcmaaP22
namespace Go.Proofs.Ytdnbdnfoogjcmaa
set_option linter.unusedVariables false
set_option linter.unusedSimpArgs false

/-- The least cost of matching what is left. -/
def pr (s : Int) : List Int → List Int → Int
  | [], b => s * (b.length : Int)
  | x :: a, [] => s * ((x :: a).length : Int)
  | x :: a, y :: b => min (min (s + pr s a (y :: b)) (s + pr s (x :: a) b)) (absZ (x - y) + pr s a b)
termination_by a b => a.length + b.length
theorem pr_nil (s : Int) (b : List Int) : pr s [] b = s * (b.length : Int) := by rw [pr]
theorem pr_end (s : Int) (a : List Int) : pr s a [] = s * (a.length : Int) := by
  cases a with
  | nil => rw [pr_nil]
  | cons x a => rw [pr]
theorem pr_cons (s x y : Int) (a b : List Int) : pr s (x :: a) (y :: b) = min (min (s + pr s a (y :: b)) (s + pr s (x :: a) b)) (absZ (x - y) + pr s a b) := by rw [pr]
theorem mul_succ_len (s : Int) (n : Nat) : s * ((n + 1 : Nat) : Int) = s + s * (n : Int) := by
  rw [show ((n + 1 : Nat) : Int) = (n : Int) + 1 by omega, Int.mul_add, Int.mul_one]; omega
theorem pr_le_skip (s : Int) (a : List Int) (y : Int) (b : List Int) : pr s a (y :: b) ≤ s + pr s a b := by
  cases a with
  | nil => rw [pr_nil, pr_nil, List.length_cons, mul_succ_len]; omega
  | cons x a => rw [pr_cons]; omega
theorem pr_bd {s : Int} (hs : 0 ≤ s) (h2 : s ≤ 10000) : ∀ (k : Nat) (a b : List Int), a.length + b.length ≤ k → 0 ≤ pr s a b ∧ pr s a b ≤ 10000 * ((a.length + b.length : Nat) : Int)
  | 0, a, b, h => by
    have ha : a = [] := List.eq_nil_of_length_eq_zero (by omega)
    have hb : b = [] := List.eq_nil_of_length_eq_zero (by omega)
    subst ha hb
    rw [pr_nil]; simp
  | k + 1, [], b, h => by
    rw [pr_nil]
    have h0 : 0 ≤ s * (b.length : Int) := Int.mul_nonneg hs (by omega)
    have h1 : s * (b.length : Int) ≤ 10000 * (b.length : Int) := Int.mul_le_mul_of_nonneg_right h2 (by omega)
    refine ⟨h0, ?_⟩
    simp only [List.length_nil, Nat.zero_add]
    exact h1
  | k + 1, x :: a, [], h => by
    rw [pr_end]
    have h0 : 0 ≤ s * ((x :: a).length : Int) := Int.mul_nonneg hs (by omega)
    have h1 : s * ((x :: a).length : Int) ≤ 10000 * ((x :: a).length : Int) := Int.mul_le_mul_of_nonneg_right h2 (by omega)
    refine ⟨h0, ?_⟩
    simp only [List.length_nil, Nat.add_zero]
    exact h1
  | k + 1, x :: a, y :: b, h => by
    simp only [List.length_cons] at h
    have h1 := pr_bd hs h2 k a (y :: b) (by simp only [List.length_cons]; omega)
    have h3 := pr_bd hs h2 k (x :: a) b (by simp only [List.length_cons]; omega)
    have h4 := pr_bd hs h2 k a b (by omega)
    have h5 := absZ_bd (x - y)
    rw [pr_cons]
    simp only [List.length_cons] at h1 h3 h4 ⊢
    omega
/-- Entry (i, j) of the table. -/
def pAt (a b : List Int) (s : Int) (i j : Nat) : Int := pr s (a.drop i) (b.drop j)
theorem pAt_bd {a b : List Int} {s : Int} (h : askedM a b s = true) (i j : Nat) : 0 ≤ pAt a b s i j ∧ pAt a b s i j ≤ 1200000 := by
  obtain ⟨⟨a1, _⟩, ⟨b1, _⟩, s1, s2⟩ := askedM_t h
  have h1 := pr_bd s1 s2 _ (a.drop i) (b.drop j) (Nat.le_refl _)
  simp only [List.length_drop] at h1
  unfold pAt
  omega
theorem pAt_corner (a b : List Int) (s : Int) {i j : Nat} (hi : ¬ i < a.length) (hj : ¬ j < b.length) : pAt a b s i j = 0 := by
  rw [pAt, List.drop_of_length_le (by omega), List.drop_of_length_le (by omega), pr_nil]; simp
theorem pAt_bottom (a b : List Int) (s : Int) {i j : Nat} (hi : ¬ i < a.length) (hj : j ≤ b.length) : pAt a b s i j = s * ((b.length : Int) - (j : Int)) := by
  rw [pAt, List.drop_of_length_le (by omega), pr_nil, List.length_drop, Int.ofNat_sub hj]
theorem pAt_right (a b : List Int) (s : Int) {i j : Nat} (hi : i ≤ a.length) (hj : ¬ j < b.length) : pAt a b s i j = s * ((a.length : Int) - (i : Int)) := by
  rw [pAt, List.drop_of_length_le (l := b) (by omega), pr_end, List.length_drop, Int.ofNat_sub hi]
theorem pAt_down (a b : List Int) (s : Int) {i j : Nat} (hi : ¬ i < a.length) (hj : j < b.length) : pAt a b s i j = s + pAt a b s i (j + 1) := by
  rw [pAt_bottom a b s hi (by omega), pAt_bottom a b s hi (by omega)]
  have e : ((b.length : Int) - (j : Int)) = ((b.length : Int) - ((j + 1 : Nat) : Int)) + 1 := by omega
  rw [e, Int.mul_add, Int.mul_one]; omega
theorem pAt_over (a b : List Int) (s : Int) {i j : Nat} (hi : i < a.length) (hj : ¬ j < b.length) : pAt a b s i j = s + pAt a b s (i + 1) j := by
  rw [pAt_right a b s (by omega) hj, pAt_right a b s (by omega) hj]
  have e : ((a.length : Int) - (i : Int)) = ((a.length : Int) - ((i + 1 : Nat) : Int)) + 1 := by omega
  rw [e, Int.mul_add, Int.mul_one]; omega
theorem pAt_in {a b : List Int} {s x y : Int} {i j : Nat} (hx : a[i]? = some x) (hy : b[j]? = some y) :
    pAt a b s i j = min (min (s + pAt a b s (i + 1) j) (s + pAt a b s i (j + 1))) (absZ (x - y) + pAt a b s (i + 1) (j + 1)) := by
  unfold pAt
  rw [drop_some hx, drop_some hy, pr_cons]
/-- Row i of the table, and the table. -/
def pRow (a b : List Int) (s : Int) (i : Nat) : List Int := (List.range (b.length + 1)).map (pAt a b s i)
def pTab (a b : List Int) (s : Int) : List (List Int) := (List.range (a.length + 1)).map (pRow a b s)
theorem pRow_len (a b : List Int) (s : Int) (i : Nat) : (pRow a b s i).length = b.length + 1 := by simp [pRow]
theorem pTab_len (a b : List Int) (s : Int) : (pTab a b s).length = a.length + 1 := by simp [pTab]
theorem pTab_at (a b : List Int) (s : Int) {i : Nat} (h : i < a.length + 1) : (pTab a b s)[i]? = some (pRow a b s i) := by rw [pTab, List.getElem?_map, List.getElem?_range h]; rfl
theorem pRow_at (a b : List Int) (s : Int) (i : Nat) {j : Nat} (h : j < b.length + 1) : (pRow a b s i)[j]? = some (pAt a b s i j) := by rw [pRow, List.getElem?_map, List.getElem?_range h]; rfl
def pTabR (a b : List Int) (s : Int) : List (List Int) := if askedM a b s = true then pTab a b s else []
theorem pTabR_t {a b : List Int} {s : Int} (h : askedM a b s = true) : pTabR a b s = pTab a b s := by rw [pTabR, if_pos h]
theorem pTabR_f {a b : List Int} {s : Int} (h : askedM a b s = false) : pTabR a b s = [] := by rw [pTabR, if_neg (by rw [h]; simp)]
theorem pTabR_small {a b : List Int} {s : Int} : (pTabR a b s).length ≤ 61 ∧ ∀ r ∈ pTabR a b s, r.length ≤ 61 := by
  rcases h : askedM a b s
  · rw [pTabR_f h]; simp
  · rw [pTabR_t h, pTab_len]
    obtain ⟨⟨a1, _⟩, ⟨b1, _⟩, _⟩ := askedM_t h
    refine ⟨by omega, fun r hr => ?_⟩
    obtain ⟨i, _, rfl⟩ := List.mem_map.1 hr
    rw [pRow_len]; omega
/-- The least of a list, from the left. -/
def minL : List Int → Int
  | [] => 0
  | x :: r => r.foldl min x
theorem minL_one (x : Int) : minL [x] = x := rfl
theorem minL_two (x y : Int) : minL [x, y] = min x y := rfl
theorem minL_three (x y z : Int) : minL [x, y, z] = min (min x y) z := rfl
theorem minL_head {L : List Int} {x : Int} (h : L[0]? = some x) : minL (L.take 1) = x := by
  cases L with
  | nil => simp at h
  | cons y r => simp at h; subst h; simp [minL]
theorem minL_step {L : List Int} {x : Int} {t : Nat} (ht : 0 < t) (h : L[t]? = some x) : minL (L.take (t + 1)) = min (minL (L.take t)) x := by
  rw [take_succ_some h]
  cases L with
  | nil => simp at h
  | cons y r =>
    obtain ⟨t', rfl⟩ : ∃ t', t = t' + 1 := ⟨t - 1, by omega⟩
    simp [minL, List.foldl_append]

/-! the best match -/
theorem pr_hit {s x : Int} (hs : 0 ≤ s) {a : List Int} : ∀ {b : List Int}, pr s (x :: a) b ≠ s + pr s a b → ∃ (n : Nat) (y : Int), b[n]? = some y ∧ pr s (x :: a) b = s * (n : Int) + absZ (x - y) + pr s a (b.drop (n + 1))
  | [], h => by
    refine absurd ?_ h
    rw [pr_end, pr_end, List.length_cons, mul_succ_len]
  | y :: b, h => by
    have hl := pr_le_skip s a y b
    have hc := pr_cons s x y a b
    by_cases h1 : pr s (x :: a) (y :: b) = absZ (x - y) + pr s a b
    · exact ⟨0, y, rfl, by rw [h1]; simp⟩
    · have h2 : pr s (x :: a) (y :: b) = s + pr s (x :: a) b := by omega
      have h3 : pr s (x :: a) b ≠ s + pr s a b := fun e => by omega
      obtain ⟨n, y', hn, e⟩ := pr_hit hs h3
      refine ⟨n + 1, y', by simpa using hn, ?_⟩
      rw [h2, e, mul_succ_len]
      simp only [List.drop_succ_cons]
      omega
/-- The first number from j on (at most k tries) of which p holds. -/
def hitFrom (p : Nat → Bool) : Nat → Nat → Nat
  | 0, j => j
  | k + 1, j => if p j = true then j else hitFrom p k (j + 1)
theorem hitFrom_t {p : Nat → Bool} {k j : Nat} (h : p j = true) : hitFrom p k j = j := by
  cases k with
  | zero => rfl
  | succ k => rw [hitFrom, if_pos h]
theorem hitFrom_f {p : Nat → Bool} {k j : Nat} (h : p j = false) (hk : 0 < k) : hitFrom p k j = hitFrom p (k - 1) (j + 1) := by
  cases k with
  | zero => omega
  | succ k => rw [hitFrom, if_neg (by rw [h]; simp)]; rfl
/-- Whether time i is matched with struck time n where j are used up. -/
def hitB (a b : List Int) (s : Int) (i j n : Nat) : Bool := decide (pAt a b s i j = s * ((n : Int) - (j : Int)) + absZ (a.getD i 0 - b.getD n 0) + pAt a b s (i + 1) (n + 1))
theorem hitB_eq {a b : List Int} {s x y : Int} {i j n : Nat} (hx : a[i]? = some x) (hy : b[n]? = some y) : hitB a b s i j n = decide (pAt a b s i j = s * ((n : Int) - (j : Int)) + absZ (x - y) + pAt a b s (i + 1) (n + 1)) := by
  simp [hitB, List.getD, hx, hy]
theorem hit_some {a b : List Int} {s : Int} {i j : Nat} (hs : 0 ≤ s) (hi : i < a.length) (h : pAt a b s i j ≠ s + pAt a b s (i + 1) j) : ∃ n, j ≤ n ∧ n < b.length ∧ hitB a b s i j n = true := by
  have hx : a[i]? = some a[i] := List.getElem?_eq_getElem hi
  unfold pAt at h
  rw [drop_some hx] at h
  obtain ⟨n, y, hn, e⟩ := pr_hit hs h
  rw [List.getElem?_drop] at hn
  have hl := (List.getElem?_eq_some_iff.1 hn).1
  refine ⟨j + n, by omega, hl, ?_⟩
  rw [hitB_eq hx hn, decide_eq_true_eq]
  unfold pAt
  rw [drop_some hx, e, List.drop_drop]
  have e1 : (((j + n : Nat) : Int) - (j : Int)) = (n : Int) := by omega
  rw [e1, show j + (n + 1) = j + n + 1 by omega]
/-- What the matching still adds from time i on, j struck times used up; k times left. -/
def bestGo (a b : List Int) (s : Int) : Nat → Nat → Nat → List Int
  | 0, _, _ => []
  | k + 1, i, j => if pAt a b s i j = s + pAt a b s (i + 1) j then -1 :: bestGo a b s k (i + 1) j
    else (hitFrom (hitB a b s i j) (b.length - j) j : Int) :: bestGo a b s k (i + 1) (hitFrom (hitB a b s i j) (b.length - j) j + 1)
theorem bestGo_zero (a b : List Int) (s : Int) (i j : Nat) : bestGo a b s 0 i j = [] := rfl
theorem bestGo_skip {a b : List Int} {s : Int} {k i j : Nat} (h : pAt a b s i j = s + pAt a b s (i + 1) j) (hk : 0 < k) : bestGo a b s k i j = -1 :: bestGo a b s (k - 1) (i + 1) j := by
  cases k with
  | zero => omega
  | succ k => rw [bestGo, if_pos h]; rfl
theorem bestGo_hit {a b : List Int} {s : Int} {k i j n : Nat} (h : pAt a b s i j ≠ s + pAt a b s (i + 1) j) (hk : 0 < k) (hn : hitFrom (hitB a b s i j) (b.length - j) j = n) : bestGo a b s k i j = (n : Int) :: bestGo a b s (k - 1) (i + 1) (n + 1) := by
  cases k with
  | zero => omega
  | succ k => rw [bestGo, if_neg h, hn]; rfl
theorem bestGo_len (a b : List Int) (s : Int) : ∀ (k i j : Nat), (bestGo a b s k i j).length = k
  | 0, _, _ => rfl
  | k + 1, i, j => by
    rw [bestGo]
    split
    · rw [List.length_cons, bestGo_len]
    · rw [List.length_cons, bestGo_len]
def bestOf (a b : List Int) (s : Int) : List Int := if askedM a b s = true then bestGo a b s a.length 0 0 else []
def bestCost (a b : List Int) (s : Int) : Int := if askedM a b s = true then pAt a b s 0 0 else 0
theorem best_t {a b : List Int} {s : Int} (h : askedM a b s = true) : bestOf a b s = bestGo a b s a.length 0 0 ∧ bestCost a b s = pAt a b s 0 0 := by simp [bestOf, bestCost, h]
theorem best_f {a b : List Int} {s : Int} (h : askedM a b s = false) : bestOf a b s = [] ∧ bestCost a b s = 0 := by simp [bestOf, bestCost, h]
end Go.Proofs.Ytdnbdnfoogjcmaa
