/- The table's corner is the least cost: every alignment costs at least as much, the best match costs just so; a table that bounds itself lies below. -/
import Derived.Test.YtdnbdnfoogjcmaaP22c
namespace Go.Proofs.Ytdnbdnfoogjcmaa
set_option linter.unusedVariables false
set_option linter.unusedSimpArgs false
theorem pAt_skip {a b : List Int} {s : Int} {i j : Nat} (hi : i < a.length) (hs : 0 ≤ s) : pAt a b s i j ≤ s + pAt a b s (i + 1) j := by
  by_cases hj : j < b.length
  · rw [pAt_in (List.getElem?_eq_getElem hi) (List.getElem?_eq_getElem hj)]; omega
  · rw [pAt_over a b s hi hj]; exact Int.le_refl _
theorem pAt_far {a b : List Int} {s x : Int} {i : Nat} (hx : a[i]? = some x) (hs : 0 ≤ s) : ∀ (d j : Nat) {y : Int}, b[j + d]? = some y → pAt a b s i j ≤ s * (d : Int) + absZ (x - y) + pAt a b s (i + 1) (j + d + 1)
  | 0, j, y, hy => by
    rw [Nat.add_zero] at hy ⊢
    rw [pAt_in hx hy]
    simp only [Int.natCast_zero, Int.mul_zero, Int.zero_add]
    rw [show j + 0 + 1 = j + 1 from rfl]
    omega
  | d + 1, j, y, hy => by
    have hj : j < b.length := by have := (List.getElem?_eq_some_iff.1 hy).1; omega
    have h1 := pAt_far hx hs d (j + 1) (y := y) (by rw [← hy]; congr 1; omega)
    have h2 := pAt_in (s := s) hx (List.getElem?_eq_getElem hj)
    rw [mul_succ_len]
    rw [show j + 1 + d + 1 = j + (d + 1) + 1 by omega] at h1
    omega
/-- The cost of what an alignment still holds, j struck times used up. -/
def goCost (a b : List Int) (s : Int) : Nat → Nat → List Int → Int
  | _, j, [] => s * ((b.length : Int) - (j : Int))
  | i, j, k :: r => if k < 0 then s + goCost a b s (i + 1) j r else s * (k - (j : Int)) + absZ (a.getD i 0 - b.getD k.toNat 0) + goCost a b s (i + 1) (k.toNat + 1) r
theorem goCost_nil (a b : List Int) (s : Int) (i j : Nat) : goCost a b s i j [] = s * ((b.length : Int) - (j : Int)) := rfl
theorem goCost_neg {a b : List Int} {s k : Int} {i j : Nat} {r : List Int} (h : k < 0) : goCost a b s i j (k :: r) = s + goCost a b s (i + 1) j r := by rw [goCost, if_pos h]
theorem goCost_pos {a b : List Int} {s k : Int} {i j : Nat} {r : List Int} (h : ¬ k < 0) : goCost a b s i j (k :: r) = s * (k - (j : Int)) + absZ (a.getD i 0 - b.getD k.toNat 0) + goCost a b s (i + 1) (k.toNat + 1) r := by rw [goCost, if_neg h]
theorem wayGo_tail {m last k : Int} {r : List Int} (h : wayGo m last (k :: r) = true) : (k = -1 ∧ wayGo m last r = true) ∨ (k ≠ -1 ∧ last < k ∧ k < m ∧ wayGo m k r = true) := by
  by_cases h1 : k = -1
  · exact .inl ⟨h1, by rw [wayGo_skip h1] at h; exact h⟩
  · by_cases h2 : k ≤ last ∨ m ≤ k
    · rw [wayGo_bad h1 h2] at h; cases h
    · rw [wayGo_go h1 h2] at h
      exact .inr ⟨h1, by omega, by omega, h⟩
theorem goCost_least {a b : List Int} {s : Int} (hs : 0 ≤ s) : ∀ (of : List Int) (i j : Nat), i + of.length = a.length → j ≤ b.length → wayGo (b.length : Int) ((j : Int) - 1) of = true → pAt a b s i j ≤ goCost a b s i j of
  | [], i, j, hi, hj, _ => by
    rw [goCost_nil, pAt_bottom a b s (by simp at hi; omega) hj]; exact Int.le_refl _
  | k :: r, i, j, hi, hj, hw => by
    simp only [List.length_cons] at hi
    rcases wayGo_tail hw with ⟨rfl, h2⟩ | ⟨h1, h2, h3, h4⟩
    · rw [goCost_neg (by omega)]
      have q1 := goCost_least (a := a) (b := b) hs r (i + 1) j (by omega) hj h2
      have q2 := pAt_skip (a := a) (b := b) (s := s) (i := i) (j := j) (by omega) hs
      omega
    · obtain ⟨n, rfl⟩ := Int.eq_ofNat_of_zero_le (show 0 ≤ k by omega)
      rw [goCost_pos (by omega), Int.toNat_natCast]
      have hx : a[i]? = some (a[i]'(by omega)) := List.getElem?_eq_getElem (by omega)
      have hy : b[j + (n - j)]? = some (b[n]'(by omega)) := by rw [show j + (n - j) = n by omega]; exact List.getElem?_eq_getElem (by omega)
      have q1 := pAt_far hx hs (n - j) j hy
      have q2 := goCost_least (a := a) (b := b) hs r (i + 1) (n + 1) (by omega) (by omega) (by rw [show (((n + 1 : Nat) : Int) - 1) = (n : Int) by omega]; exact h4)
      rw [show j + (n - j) + 1 = n + 1 by omega, show ((n - j : Nat) : Int) = (n : Int) - (j : Int) by omega] at q1
      rw [List.getD, List.getD, hx, List.getElem?_eq_getElem (show n < b.length by omega)]
      simp only [Option.getD_some]
      omega
theorem goCost_sum (a b : List Int) (s : Int) (of : List Int) : ∀ (d i j : Nat), i + d = of.length → goCost a b s i j (of.drop i) = (sumTo (costAt a b of s) of.length - sumTo (costAt a b of s) i) + s * ((b.length : Int) - (j : Int) - (sumTo (hitAt of) of.length - sumTo (hitAt of) i))
  | 0, i, j, h => by
    obtain rfl : i = of.length := by omega
    rw [List.drop_length, goCost_nil, Int.sub_self, Int.sub_self, Int.sub_zero, Int.zero_add]
  | d + 1, i, j, h => by
    have hk : of[i]? = some (of[i]'(by omega)) := List.getElem?_eq_getElem (by omega)
    rw [drop_some hk]
    by_cases h0 : of[i]'(by omega) < 0
    · have hc := costAt_neg (ideal := a) (struck := b) (skip := s) hk h0
      rw [goCost_neg h0, goCost_sum a b s of d (i + 1) j (by omega), sumTo, sumTo, hc.1, hc.2, Int.add_zero]
      omega
    · have hc1 : costAt a b of s i = absZ (a.getD i 0 - b.getD (of[i]'(by omega)).toNat 0) := by simp only [costAt, List.getD, hk, Option.getD_some, if_neg h0]
      have hc2 : hitAt of i = 1 := by simp only [hitAt, List.getD, hk, Option.getD_some, if_neg h0]
      rw [goCost_pos h0, goCost_sum a b s of d (i + 1) _ (by omega), sumTo, sumTo, hc1, hc2]
      obtain ⟨n, hn⟩ := Int.eq_ofNat_of_zero_le (show 0 ≤ of[i]'(by omega) by omega)
      rw [hn, Int.toNat_natCast]
      have e1 : s * ((b.length : Int) - (j : Int) - (sumTo (hitAt of) of.length - sumTo (hitAt of) i)) = s * ((n : Int) - (j : Int)) + s * ((b.length : Int) - ((n + 1 : Nat) : Int) - (sumTo (hitAt of) of.length - (sumTo (hitAt of) i + 1))) := by
        rw [← Int.mul_add]; congr 1; omega
      rw [e1]
      omega
theorem costZ_go (a b : List Int) (s : Int) (of : List Int) : costZ a b of s = goCost a b s 0 0 of := by
  have h := goCost_sum a b s of of.length 0 0 (by omega)
  rw [List.drop_zero] at h
  rw [h, costZ]
  simp only [sumTo, Int.sub_zero, Int.natCast_zero]
  rw [Int.mul_comm]
theorem least_cost {a b of : List Int} {s : Int} (hs : 0 ≤ s) (h : wayB a.length b.length of = true) : pAt a b s 0 0 ≤ costZ a b of s := by
  have h1 := (wayB_t h).1
  simp only [wayB, Bool.and_eq_true] at h
  rw [costZ_go]
  exact goCost_least hs of 0 0 (by omega) (Nat.zero_le _) (by simpa using h.1)
/-! the best match -/
theorem hitFrom_in {p : Nat → Bool} : ∀ (k j : Nat), (∃ n, j ≤ n ∧ n < j + k ∧ p n = true) → p (hitFrom p k j) = true ∧ j ≤ hitFrom p k j ∧ hitFrom p k j < j + k
  | 0, j, h => by obtain ⟨n, h1, h2, _⟩ := h; omega
  | k + 1, j, h => by
    rcases hp : p j
    · rw [hitFrom_f hp (by omega)]
      obtain ⟨n, h1, h2, h3⟩ := h
      have hne : n ≠ j := fun e => by rw [e, hp] at h3; cases h3
      have q := hitFrom_in k (j + 1) ⟨n, by omega, by omega, h3⟩
      exact ⟨q.1, by have := q.2.1; simp only [Nat.add_sub_cancel] at *; omega, by have := q.2.2; simp only [Nat.add_sub_cancel] at *; omega⟩
    · rw [hitFrom_t hp]
      exact ⟨hp, Nat.le_refl _, by omega⟩
theorem best_ok {a b : List Int} {s : Int} (hs : 0 ≤ s) : ∀ (k i j : Nat), i + k = a.length → j ≤ b.length → wayGo b.length ((j : Int) - 1) (bestGo a b s k i j) = true ∧ goCost a b s i j (bestGo a b s k i j) = pAt a b s i j
  | 0, i, j, hi, hj => by
    rw [bestGo_zero]
    exact ⟨rfl, by rw [goCost_nil, pAt_bottom a b s (by omega) hj]⟩
  | k + 1, i, j, hi, hj => by
    by_cases h : pAt a b s i j = s + pAt a b s (i + 1) j
    · rw [bestGo_skip h (by omega)]
      have q := best_ok (a := a) (b := b) hs k (i + 1) j (by omega) hj
      exact ⟨by rw [wayGo_skip rfl]; exact q.1, by rw [goCost_neg (by omega), Nat.add_sub_cancel, q.2, h]⟩
    · obtain ⟨n0, h1, h2, h3⟩ := hit_some hs (show i < a.length by omega) h
      have q0 := hitFrom_in (p := hitB a b s i j) (b.length - j) j ⟨n0, h1, by omega, h3⟩
      obtain ⟨n, hn⟩ : ∃ n, n = hitFrom (hitB a b s i j) (b.length - j) j := ⟨_, rfl⟩
      rw [← hn] at q0
      rw [bestGo_hit h (by omega) hn.symm]
      have q := best_ok (a := a) (b := b) hs k (i + 1) (n + 1) (by omega) (by omega)
      rw [show (((n + 1 : Nat) : Int) - 1) = (n : Int) by omega] at q
      refine ⟨?_, ?_⟩
      · rw [wayGo_go (by omega) (by omega)]; exact q.1
      · rw [goCost_pos (by omega), Int.toNat_natCast, Nat.add_sub_cancel, q.2]
        have := of_decide_eq_true q0.1
        omega
theorem best_way {a b : List Int} {s : Int} (h : askedM a b s = true) : wayB a.length b.length (bestOf a b s) = true ∧ costZ a b (bestOf a b s) s = bestCost a b s := by
  have hs := (askedM_t h).2.2.1
  have q := best_ok (a := a) (b := b) hs a.length 0 0 (by omega) (Nat.zero_le _)
  rw [(best_t h).1, (best_t h).2]
  refine ⟨?_, ?_⟩
  · rw [wayB, bestGo_len]
    have := q.1
    simp only [Int.natCast_zero, Int.zero_sub] at this
    rw [this]; simp
  · rw [costZ_go]; exact q.2
/-! tables -/
theorem tc_pTab {a b : List Int} {s : Int} {i j : Nat} (hi : i < a.length + 1) (hj : j < b.length + 1) : tc (pTab a b s) i j = pAt a b s i j := tc_at (pTab_at a b s hi) (pRow_at a b s i hj)
theorem cp_best {a b : List Int} {s : Int} (h : askedM a b s = true) : cpOk a b s (pTabR a b s) = true ∧ cpR a b s (pTabR a b s) (bestOf a b s) (bestCost a b s) = true := by
  have hs := (askedM_t h).2.2.1
  rw [pTabR_t h]
  have h1 : shapeB a.length b.length (pTab a b s) = true := by
    simp only [shapeB, Bool.and_eq_true, decide_eq_true_eq, List.all_eq_true, List.mem_range]
    refine ⟨fun i hi => ?_, pTab_len a b s⟩
    rw [pTab_len] at hi
    rw [okRowB_at (pTab_at a b s hi), rowB, pRow_len, decide_eq_true (rfl : b.length + 1 = b.length + 1), Bool.true_and, allIn, List.all_eq_true]
    intro x hx
    obtain ⟨j, _, rfl⟩ := List.mem_map.1 hx
    have := pAt_bd h i j
    rw [inB, decide_eq_true_iff]; omega
  have h2 : boundB a b s (pTab a b s) = true := by
    refine boundB_t fun i hi => okLine_t fun j hj => ?_
    refine okCell_ok (fun q => ?_) (fun q => ?_) (fun x y hx hy => ?_)
    · rw [tc_pTab hi hj, tc_pTab (by omega) hj]
      have := pAt_skip (b := b) (j := j) q hs
      omega
    · rw [tc_pTab hi hj, tc_pTab hi (by omega)]
      by_cases hia : i < a.length
      · have := pAt_in (s := s) (List.getElem?_eq_getElem hia) (List.getElem?_eq_getElem q)
        omega
      · have := pAt_down a b s hia q
        omega
    · have hia := (List.getElem?_eq_some_iff.1 hx).1
      have hjb := (List.getElem?_eq_some_iff.1 hy).1
      rw [tc_pTab hi hj, tc_pTab (by omega) (by omega)]
      have := pAt_in (s := s) hx hy
      omega
  have h3 : cpOk a b s (pTab a b s) = true := by rw [cpOk, h, h1]; rfl
  refine ⟨h3, ?_⟩
  rw [cp_t h3, cpV, h2, tc_pTab (by omega) (by omega), tc_pTab (by omega) (by omega), pAt_corner a b s (by omega) (by omega), (best_way h).1, (best_way h).2, (best_t h).2]
  simp
theorem tc_below {a b : List Int} {s : Int} {T : List (List Int)} (hb : boundB a b s T = true) (hc : tc T a.length b.length = 0) : ∀ (d i j : Nat), a.length + b.length - i - j = d → i ≤ a.length → j ≤ b.length → tc T i j ≤ pAt a b s i j := by
  have hcell : ∀ i j, i < a.length + 1 → j < b.length + 1 → okCell a b s T i j = true := fun i j hi hj => by
    rw [boundB, List.all_eq_true] at hb
    have := hb i (List.mem_range.2 hi)
    rw [okLine, List.all_eq_true] at this
    exact this j (List.mem_range.2 hj)
  intro d
  induction d using Nat.strongRecOn with
  | ind d ih =>
    intro i j hd hi hj
    have hok := hcell i j (by omega) (by omega)
    have nA : ¬ (i < a.length ∧ s + tc T (i + 1) j < tc T i j) := fun q => by rw [okCell_A q.1 q.2] at hok; cases hok
    have nB : ¬ (j < b.length ∧ s + tc T i (j + 1) < tc T i j) := fun q => by rw [okCell_B q.1 q.2] at hok; cases hok
    by_cases hia : i < a.length
    · have q1 := ih (a.length + b.length - (i + 1) - j) (by omega) (i + 1) j rfl (by omega) hj
      by_cases hjb : j < b.length
      · have q2 := ih (a.length + b.length - i - (j + 1)) (by omega) i (j + 1) rfl hi (by omega)
        have q3 := ih (a.length + b.length - (i + 1) - (j + 1)) (by omega) (i + 1) (j + 1) rfl (by omega) (by omega)
        have hx := List.getElem?_eq_getElem hia
        have hy := List.getElem?_eq_getElem hjb
        have nC : ¬ absZ (a[i] - b[j]) + tc T (i + 1) (j + 1) < tc T i j := fun q => by rw [okCell_C hx hy q] at hok; cases hok
        have := pAt_in (s := s) hx hy
        omega
      · have := pAt_over a b s hia hjb
        omega
    · by_cases hjb : j < b.length
      · have q2 := ih (a.length + b.length - i - (j + 1)) (by omega) i (j + 1) rfl hi (by omega)
        have := pAt_down a b s hia hjb
        omega
      · obtain rfl : i = a.length := by omega
        obtain rfl : j = b.length := by omega
        rw [hc, pAt_corner a b s (by omega) (by omega)]; exact Int.le_refl _
theorem cp_least {a b of : List Int} {s x : Int} {T : List (List Int)} (h1 : cpOk a b s T = true) (h2 : cpR a b s T of x = true) : askedM a b s = true ∧ bestCost a b s = x := by
  have hA : askedM a b s = true ∧ shapeB a.length b.length T = true := by simpa [cpOk] using h1
  have hV : boundB a b s T = true ∧ tc T a.length b.length = 0 ∧ wayB a.length b.length of = true ∧ x = tc T 0 0 ∧ x = costZ a b of s := by simpa [cpR, cpV, h1] using h2
  refine ⟨hA.1, ?_⟩
  rw [(best_t hA.1).2]
  have q1 := least_cost (askedM_t hA.1).2.2.1 hV.2.2.1
  have q2 := tc_below hV.1 hV.2.1 _ 0 0 rfl (Nat.zero_le _) (Nat.zero_le _)
  have e1 := hV.2.2.2.1
  have e2 := hV.2.2.2.2
  omega
end Go.Proofs.Ytdnbdnfoogjcmaa
