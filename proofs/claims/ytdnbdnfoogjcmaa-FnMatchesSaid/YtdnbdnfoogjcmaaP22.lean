/- What the matching of times computes, as plain functions on lists. -/
import Derived.Test.YtdnbdnfoogjcmaaP23
namespace Go.Proofs.Ytdnbdnfoogjcmaa
set_option linter.unusedVariables false
set_option linter.unusedSimpArgs false

/-! which are missed, which are extra -/
def ofOk (l : List Int) (hi : Int) : Bool := decide (l.length ≤ 60) && allIn l (-1) hi
theorem ofOk_len {l : List Int} {hi : Int} (h : ofOk l hi = true) : l.length ≤ 60 := by
  simp only [ofOk, Bool.and_eq_true, decide_eq_true_eq] at h; exact h.1
def isMiss (l : List Int) (k : Nat) : Bool := l.getD k 0 == -1
theorem isMiss_eq {l : List Int} {k : Nat} {x : Int} (h : l[k]? = some x) : isMiss l k = (x == -1) := by simp [isMiss, List.getD, h]
def missR (l : List Int) : List Int := if ofOk l 60 = true then pick (isMiss l) l.length else []
theorem missR_t {l : List Int} (h : ofOk l 60 = true) : missR l = pick (isMiss l) l.length := by rw [missR, if_pos h]
theorem missR_f {l : List Int} (h : ofOk l 60 = false) : missR l = [] := by rw [missR, if_neg (by rw [h]; simp)]
def extraOk (n : Int) (l : List Int) : Bool := inB n 0 60 && ofOk l (n - 1)
def notIn (l : List Int) (k : Nat) : Bool := !(l.any fun x => x == (k : Int))
def extraR (n : Int) (l : List Int) : List Int := if extraOk n l = true then pick (notIn l) n.toNat else []
theorem extraR_t {n : Int} {l : List Int} (h : extraOk n l = true) : extraR n l = pick (notIn l) n.toNat := by rw [extraR, if_pos h]
theorem extraR_f {n : Int} {l : List Int} (h : extraOk n l = false) : extraR n l = [] := by rw [extraR, if_neg (by rw [h]; simp)]

/-! alignments and their cost -/
def wayGo (m : Int) : Int → List Int → Bool
  | _, [] => true
  | last, k :: r => if k = -1 then wayGo m last r else if k ≤ last ∨ m ≤ k then false else wayGo m k r
theorem wayGo_nil (m last : Int) : wayGo m last [] = true := rfl
theorem wayGo_skip {m last k : Int} {r : List Int} (h : k = -1) : wayGo m last (k :: r) = wayGo m last r := by rw [wayGo, if_pos h]
theorem wayGo_bad {m last k : Int} {r : List Int} (h : k ≠ -1) (h2 : k ≤ last ∨ m ≤ k) : wayGo m last (k :: r) = false := by rw [wayGo, if_neg h, if_pos h2]
theorem wayGo_go {m last k : Int} {r : List Int} (h : k ≠ -1) (h2 : ¬ (k ≤ last ∨ m ≤ k)) : wayGo m last (k :: r) = wayGo m k r := by rw [wayGo, if_neg h, if_neg h2]
def wayB (n m : Nat) (of : List Int) : Bool := wayGo m (-1) of && decide (of.length = n)
theorem wayGo_t : ∀ {of : List Int} {m last : Int}, -1 ≤ last → wayGo m last of = true → ∀ x ∈ of, x = -1 ∨ (0 ≤ x ∧ x < m)
  | [], _, _, _, _ => fun x hx => by cases hx
  | k :: r, m, last, hl, h => fun x hx => by
    by_cases h1 : k = -1
    · rw [wayGo_skip h1] at h
      rcases List.mem_cons.1 hx with rfl | hx
      · exact .inl h1
      · exact wayGo_t hl h x hx
    · by_cases h2 : k ≤ last ∨ m ≤ k
      · rw [wayGo_bad h1 h2] at h; cases h
      · rw [wayGo_go h1 h2] at h
        rcases List.mem_cons.1 hx with rfl | hx
        · exact .inr (by omega)
        · exact wayGo_t (by omega) h x hx
theorem wayB_t {n m : Nat} {of : List Int} (h : wayB n m of = true) : of.length = n ∧ ∀ x ∈ of, x = -1 ∨ (0 ≤ x ∧ x < m) := by
  simp only [wayB, Bool.and_eq_true, decide_eq_true_eq] at h
  exact ⟨h.2, wayGo_t (by omega) h.1⟩
theorem drop_some {α : Type} {l : List α} {k : Nat} {x : α} (h : l[k]? = some x) : l.drop k = x :: l.drop (k + 1) := by
  have hk := (List.getElem?_eq_some_iff.1 h)
  rw [List.drop_eq_getElem_cons hk.1, hk.2]
def costAt (ideal struck of : List Int) (skip : Int) (i : Nat) : Int := if of.getD i 0 < 0 then skip else absZ (ideal.getD i 0 - struck.getD (of.getD i 0).toNat 0)
def hitAt (of : List Int) (i : Nat) : Int := if of.getD i 0 < 0 then 0 else 1
theorem costAt_neg {ideal struck of : List Int} {skip k : Int} {i : Nat} (h : of[i]? = some k) (hk : k < 0) : costAt ideal struck of skip i = skip ∧ hitAt of i = 0 := by
  simp [costAt, hitAt, List.getD, h, hk]
theorem costAt_pos {ideal struck of : List Int} {skip k x y : Int} {i : Nat} (h : of[i]? = some k) (hk : ¬ k < 0) (hx : ideal[i]? = some x) (hy : struck[k.toNat]? = some y) : costAt ideal struck of skip i = absZ (x - y) ∧ hitAt of i = 1 := by
  simp [costAt, hitAt, List.getD, h, hk, hx, hy]
def costZ (ideal struck of : List Int) (skip : Int) : Int := sumTo (costAt ideal struck of skip) of.length + ((struck.length : Int) - sumTo (hitAt of) of.length) * skip
def askedM (ideal struck : List Int) (skip : Int) : Bool := goodTimes ideal && goodTimes struck && inB skip 0 10000
def costOk (ideal struck of : List Int) (skip : Int) : Bool := askedM ideal struck skip && wayB ideal.length struck.length of
def costV (ideal struck of : List Int) (skip : Int) : Int := if costOk ideal struck of skip = true then costZ ideal struck of skip else 0
theorem costV_t {a b c : List Int} {s : Int} (h : costOk a b c s = true) : costV a b c s = costZ a b c s := by rw [costV, if_pos h]
theorem costV_f {a b c : List Int} {s : Int} (h : costOk a b c s = false) : costV a b c s = 0 := by rw [costV, if_neg (by rw [h]; simp)]
theorem goodTimes_t {l : List Int} (h : goodTimes l = true) : l.length ≤ 60 ∧ ∀ x ∈ l, 0 ≤ x ∧ x ≤ 1000000 := by
  simp only [goodTimes, Bool.and_eq_true, decide_eq_true_eq, List.all_eq_true, List.mem_range] at h
  refine ⟨h.2, fun x hx => ?_⟩
  obtain ⟨j, hj, e⟩ := List.getElem_of_mem hx
  have h1 := h.1 j hj
  simp only [okTime, Bool.and_eq_true] at h1
  have e1 : l.getD j 0 = x := by rw [List.getD_eq_getElem?_getD, List.getElem?_eq_getElem hj, e]; rfl
  rw [e1] at h1
  exact inB_t h1.1
theorem askedM_t {a b : List Int} {s : Int} (h : askedM a b s = true) : (a.length ≤ 60 ∧ ∀ x ∈ a, 0 ≤ x ∧ x ≤ 1000000) ∧ (b.length ≤ 60 ∧ ∀ x ∈ b, 0 ≤ x ∧ x ≤ 1000000) ∧ 0 ≤ s ∧ s ≤ 10000 := by
  simp only [askedM, Bool.and_eq_true] at h
  exact ⟨goodTimes_t h.1.1, goodTimes_t h.1.2, inB_t h.2⟩
theorem hit_bd (of : List Int) (k : Nat) : 0 ≤ sumTo (hitAt of) k ∧ sumTo (hitAt of) k ≤ k := by
  have h := sumTo_bd (f := hitAt of) (B := 1) (k := k) (fun j _ => by unfold hitAt; split <;> omega)
  omega
theorem cost_step_bd {ideal struck of : List Int} {skip : Int} (ha : askedM ideal struck skip = true) (hw : wayB ideal.length struck.length of = true) {i : Nat} (hi : i < of.length) :
    0 ≤ costAt ideal struck of skip i ∧ costAt ideal struck of skip i ≤ 1000000 := by
  obtain ⟨⟨a1, a2⟩, ⟨b1, b2⟩, s1, s2⟩ := askedM_t ha
  obtain ⟨w1, w2⟩ := wayB_t hw
  have hk : of[i]? = some of[i] := List.getElem?_eq_getElem hi
  by_cases h0 : of[i] < 0
  · rw [(costAt_neg hk h0).1]; omega
  · have hm := w2 of[i] (List.getElem_mem hi)
    have hx : ideal[i]? = some (ideal[i]'(by omega)) := List.getElem?_eq_getElem (by omega)
    have hy : struck[(of[i]).toNat]? = some (struck[(of[i]).toNat]'(by omega)) := List.getElem?_eq_getElem (by omega)
    rw [(costAt_pos hk h0 hx hy).1]
    have e1 := a2 _ (List.mem_of_getElem? hx)
    have e2 := b2 _ (List.mem_of_getElem? hy)
    have e3 := absZ_bd (ideal[i]'(by omega) - struck[(of[i]).toNat]'(by omega))
    omega
theorem cost_bd {ideal struck of : List Int} {skip : Int} (ha : askedM ideal struck skip = true) (hw : wayB ideal.length struck.length of = true) {k : Nat} (hk : k ≤ of.length) :
    0 ≤ sumTo (costAt ideal struck of skip) k ∧ sumTo (costAt ideal struck of skip) k ≤ 60000000 := by
  have h := sumTo_bd (f := costAt ideal struck of skip) (B := 1000000) (k := k) (fun j hj => cost_step_bd ha hw (by omega))
  have := (askedM_t ha).1.1
  have := (wayB_t hw).1
  omega
theorem spec_cost (ideal struck of : List Int) (skip : Int) : ∀ k, skip * (struck.length : Int) + sumTo (fun i => costAt ideal struck of skip i - hitAt of i * skip) k = sumTo (costAt ideal struck of skip) k + ((struck.length : Int) - sumTo (hitAt of) k) * skip
  | 0 => by simp [sumTo, Int.mul_comm]
  | k + 1 => by
    have h := spec_cost ideal struck of skip k
    simp only [sumTo]
    rw [Int.sub_mul] at h ⊢
    rw [Int.add_mul]
    omega
end Go.Proofs.Ytdnbdnfoogjcmaa
