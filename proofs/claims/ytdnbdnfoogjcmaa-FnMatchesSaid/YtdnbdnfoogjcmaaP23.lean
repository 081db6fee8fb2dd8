/- What the checks of values and weights and their weighted distance compute, as plain functions on lists. -/
import Derived.Test.YtdnbdnfoogjcmaaP21
namespace Go.Proofs.Ytdnbdnfoogjcmaa
set_option linter.unusedVariables false
set_option linter.unusedSimpArgs false

def absZ (x : Int) : Int := if x < 0 then -x else x
theorem absZ_neg {x : Int} (h : x < 0) : absZ x = -x := by rw [absZ, if_pos h]
theorem absZ_pos {x : Int} (h : 0 ≤ x) : absZ x = x := by rw [absZ, if_neg (by omega)]
theorem absZ_bd (x : Int) : 0 ≤ absZ x ∧ x ≤ absZ x ∧ -x ≤ absZ x ∧ (absZ x = x ∨ absZ x = -x) := by unfold absZ; split <;> omega
theorem absZ_sub (x y : Int) : absZ (x - y) = absZ (y - x) := by unfold absZ; split <;> split <;> omega

def allIn (l : List Int) (a b : Int) : Bool := l.all fun x => inB x a b
theorem allIn_bad {l : List Int} {a b : Int} {k : Nat} {x : Int} (h : l[k]? = some x) (hx : inB x a b = false) : allIn l a b = false := by
  rw [Bool.eq_false_iff]
  intro ha
  rw [allIn, List.all_eq_true] at ha
  rw [ha x (List.mem_of_getElem? h)] at hx
  cases hx
theorem allIn_good {l : List Int} {a b : Int} (h : ∀ j, j < l.length → ∃ x, l[j]? = some x ∧ inB x a b = true) : allIn l a b = true := by
  rw [allIn, List.all_eq_true]
  intro x hx
  obtain ⟨j, hj, e⟩ := List.getElem_of_mem hx
  obtain ⟨y, hy, hb⟩ := h j hj
  rw [List.getElem?_eq_getElem hj, e] at hy
  injection hy with hy
  rw [hy]; exact hb
theorem allIn_t {l : List Int} {a b : Int} (h : allIn l a b = true) {k : Nat} {x : Int} (hx : l[k]? = some x) : a ≤ x ∧ x ≤ b := by
  rw [allIn, List.all_eq_true] at h
  exact inB_t (h x (List.mem_of_getElem? hx))

def askedB (vs ws : List Int) : Bool := decide (vs.length ≤ 400) && allIn vs (-10000000) 10000000 && decide (0 < vs.length) && decide (ws.length = vs.length) && allIn ws 1 100
theorem askedB_t {vs ws : List Int} (h : askedB vs ws = true) : vs.length ≤ 400 ∧ allIn vs (-10000000) 10000000 = true ∧ 0 < vs.length ∧ ws.length = vs.length ∧ allIn ws 1 100 = true := by
  simp only [askedB, Bool.and_eq_true, decide_eq_true_eq] at h
  exact ⟨h.1.1.1.1, h.1.1.1.2, h.1.1.2, h.1.2, h.2⟩
def farAt (vs ws : List Int) (x : Int) (i : Nat) : Int := absZ (vs.getD i 0 - x) * ws.getD i 0
def farV (vs ws : List Int) (x : Int) : Int := if (askedB vs ws && inB x (-10000000) 10000000) = true then sumTo (farAt vs ws x) vs.length else 0
theorem farV_t {vs ws : List Int} {x : Int} (h : (askedB vs ws && inB x (-10000000) 10000000) = true) : farV vs ws x = sumTo (farAt vs ws x) vs.length := by rw [farV, if_pos h]
theorem farV_f {vs ws : List Int} {x : Int} (h : (askedB vs ws && inB x (-10000000) 10000000) = false) : farV vs ws x = 0 := by rw [farV, if_neg (by rw [h]; simp)]
theorem farAt_eq {vs ws : List Int} {x v u : Int} {i : Nat} (hv : vs[i]? = some v) (hu : ws[i]? = some u) : farAt vs ws x i = absZ (v - x) * u := by
  simp [farAt, List.getD, hv, hu]
theorem farAt_bd {vs ws : List Int} {x : Int} (hv : allIn vs (-10000000) 10000000 = true) (hw : allIn ws 1 100 = true) (hl : ws.length = vs.length) (hx : -10000000 ≤ x ∧ x ≤ 10000000) {i : Nat} (hi : i < vs.length) :
    0 ≤ farAt vs ws x i ∧ farAt vs ws x i ≤ 2000000000 := by
  have h1 : vs[i]? = some vs[i] := List.getElem?_eq_getElem hi
  have h2 : ws[i]? = some (ws[i]'(by omega)) := List.getElem?_eq_getElem (by omega)
  rw [farAt_eq h1 h2]
  have b1 := allIn_t hv h1
  have b2 := allIn_t hw h2
  have b3 := absZ_bd (vs[i] - x)
  refine ⟨Int.mul_nonneg (by omega) (by omega), ?_⟩
  exact Int.le_trans (Int.mul_le_mul (show absZ (vs[i] - x) ≤ 20000000 by omega) b2.2 (by omega) (by omega)) (by decide)
theorem far_bd {vs ws : List Int} {x : Int} (hv : allIn vs (-10000000) 10000000 = true) (hw : allIn ws 1 100 = true) (hl : ws.length = vs.length) (hx : -10000000 ≤ x ∧ x ≤ 10000000) (hn : vs.length ≤ 400) {k : Nat} (hk : k ≤ vs.length) :
    0 ≤ sumTo (farAt vs ws x) k ∧ sumTo (farAt vs ws x) k ≤ 800000000000 := by
  have h := sumTo_bd (f := farAt vs ws x) (B := 2000000000) (k := k) (fun j hj => farAt_bd hv hw hl hx (by omega))
  omega
end Go.Proofs.Ytdnbdnfoogjcmaa
