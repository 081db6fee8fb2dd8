/- Plain laws of repeats: the next place of the same text, the first pair. -/
import Derived.Test.YtmdmnjjlpefigaaW7t
namespace Go.Proofs.Ytmdmnjjlpefigaa
set_option linter.unusedVariables false
set_option linter.unusedSimpArgs false
open Go.ChangeShapes Go.WideShapes Go.ChangeAt Go.RowKit Go.Deep
/-- The first place from i on where a list has a text. -/
def fromIx (l : List ByteArray) (i : Nat) (s : ByteArray) : Option Nat := (List.range l.length).find? (fun k => decide (i ≤ k) && decide (l[k]? = some s))
/-- The next place of the text of place i, if there is one. -/
def nxt (l : List ByteArray) (i : Nat) : Option Nat := match l[i]? with | some s => fromIx l (i + 1) s | none => none
/-- .. and 0 if not. -/
def nxtN (l : List ByteArray) (i : Nat) : Nat := (nxt l i).getD 0
/-- The first of the first m places whose text comes again, and where. -/
def repTo (l : List ByteArray) (m : Nat) : Option (Nat × Nat) := (List.range m).findSome? (fun i => (nxt l i).map fun k => (i, k))
def firstRep (l : List ByteArray) : Option (Nat × Nat) := repTo l l.length
theorem fromIx_some {l : List ByteArray} {i k : Nat} {s : ByteArray} (h : fromIx l i s = some k) : i ≤ k ∧ l[k]? = some s ∧ k < l.length ∧ ∀ j, i ≤ j → j < k → l[j]? ≠ some s := by
  rw [fromIx, List.find?_range_eq_some] at h
  obtain ⟨h1, h2, h3⟩ := h
  simp only [Bool.and_eq_true, decide_eq_true_eq] at h1
  refine ⟨h1.1, h1.2, List.mem_range.1 h2, fun j hj hk e => ?_⟩
  have := h3 j hk
  simp [hj, e] at this
theorem fromIx_none {l : List ByteArray} {i : Nat} {s : ByteArray} (h : fromIx l i s = none) : ∀ j, i ≤ j → l[j]? ≠ some s := by
  intro j hj e
  rw [fromIx, List.find?_eq_none] at h
  have := h j (List.mem_range.2 (List.getElem?_eq_some_iff.1 e).1)
  simp [hj, e] at this
theorem fromIx_eq {l : List ByteArray} {i k : Nat} {s : ByteArray} (h1 : i ≤ k) (h2 : l[k]? = some s) (h3 : ∀ j, i ≤ j → j < k → l[j]? ≠ some s) : fromIx l i s = some k := by
  rw [fromIx, List.find?_range_eq_some]
  refine ⟨by simp [h1, h2], List.mem_range.2 (List.getElem?_eq_some_iff.1 h2).1, fun j hj => ?_⟩
  by_cases hi : i ≤ j
  · simp [hi, h3 j hi hj]
  · simp [hi]
theorem fromIx_no {l : List ByteArray} {i : Nat} {s : ByteArray} (h : ∀ j, i ≤ j → l[j]? ≠ some s) : fromIx l i s = none := by
  rw [fromIx, List.find?_eq_none]
  intro j _
  by_cases hi : i ≤ j
  · simp [hi, h j hi]
  · simp [hi]
theorem fromIx_here {l : List ByteArray} {i : Nat} {s : ByteArray} (h : l[i]? = some s) : fromIx l i s = some i := fromIx_eq (Nat.le_refl _) h (fun j h1 h2 => by omega)
theorem fromIx_step {l : List ByteArray} {i : Nat} {s : ByteArray} (h : l[i]? ≠ some s) : fromIx l i s = fromIx l (i + 1) s := by
  rcases q : fromIx l (i + 1) s with _ | k
  · refine fromIx_no fun j hj => ?_
    by_cases e : j = i
    · subst e; exact h
    · exact fromIx_none q j (by omega)
  · obtain ⟨h1, h2, _, h3⟩ := fromIx_some q
    refine fromIx_eq (by omega) h2 fun j hj hk => ?_
    by_cases e : j = i
    · subst e; exact h
    · exact h3 j (by omega) hk
theorem fromIx_end {l : List ByteArray} (s : ByteArray) : fromIx l l.length s = none := fromIx_no fun j hj e => by
  have := (List.getElem?_eq_some_iff.1 e).1
  omega
theorem nxt_at {l : List ByteArray} {i : Nat} {s : ByteArray} (h : l[i]? = some s) : nxt l i = fromIx l (i + 1) s := by rw [nxt, h]
theorem nxt_some {l : List ByteArray} {i k : Nat} (h : nxt l i = some k) : i < k ∧ k < l.length ∧ l[k]? = l[i]? ∧ ∀ j, i < j → j < k → l[j]? ≠ l[i]? := by
  rcases e : l[i]? with _ | s
  · rw [nxt, e] at h; cases h
  · rw [nxt_at e] at h
    obtain ⟨h1, h2, h3, h4⟩ := fromIx_some h
    exact ⟨h1, h3, h2, fun j a b => h4 j a b⟩
theorem nxt_none {l : List ByteArray} {i : Nat} (h : nxt l i = none) : ∀ j, i < j → j < l.length → l[j]? ≠ l[i]? := by
  intro j hj hl
  rcases e : l[i]? with _ | s
  · rw [List.getElem?_eq_none_iff] at e; omega
  · rw [nxt_at e] at h
    exact fromIx_none h j hj
theorem nxt_is {l : List ByteArray} {i k : Nat} (h1 : i < k) (h2 : k < l.length) (h3 : l[k]? = l[i]?) (h4 : ∀ j, i < j → j < k → l[j]? ≠ l[i]?) : nxt l i = some k := by
  rcases e : l[i]? with _ | s
  · rw [List.getElem?_eq_none_iff] at e; omega
  · rw [nxt_at e]
    exact fromIx_eq h1 (by rw [h3, e]) (fun j a b => by have := h4 j a b; rwa [e] at this)
theorem nxt_no {l : List ByteArray} {i : Nat} (h : ∀ j, i < j → j < l.length → l[j]? ≠ l[i]?) : nxt l i = none := by
  rcases e : nxt l i with _ | k
  · rfl
  · obtain ⟨h1, h2, h3, _⟩ := nxt_some e
    exact absurd h3 (h k h1 h2)
theorem nxtN_lt {l : List ByteArray} {i : Nat} (h : 0 < nxtN l i) : nxt l i = some (nxtN l i) := by
  rw [nxtN] at h ⊢
  rcases e : nxt l i with _ | k
  · rw [e] at h; exact absurd h (by simp)
  · rfl
theorem nxtN_zero {l : List ByteArray} {i : Nat} (h : nxtN l i = 0) : nxt l i = none := by
  rw [nxtN] at h
  rcases e : nxt l i with _ | k
  · rfl
  · rw [e] at h
    have := (nxt_some e).1
    simp at h; omega
theorem nxtN_le (l : List ByteArray) (i : Nat) : nxtN l i = 0 ∨ (i < nxtN l i ∧ nxtN l i < l.length) := by
  by_cases h : nxtN l i = 0
  · exact Or.inl h
  · have := nxt_some (nxtN_lt (by omega : 0 < nxtN l i))
    exact Or.inr ⟨this.1, this.2.1⟩
theorem repTo_succ (l : List ByteArray) (m : Nat) : repTo l (m + 1) = (repTo l m).or ((nxt l m).map fun k => (m, k)) := by
  rw [repTo, List.range_succ, List.findSome?_append, repTo]
  simp [List.findSome?_cons]
  rcases nxt l m <;> simp
theorem repTo_keep {l : List ByteArray} {m n : Nat} {p : Nat × Nat} (h : repTo l m = some p) (hn : m ≤ n) : repTo l n = some p := by
  obtain ⟨d, rfl⟩ : ∃ d, n = m + d := ⟨n - m, by omega⟩
  clear hn
  induction d with
  | zero => exact h
  | succ d ih => rw [← Nat.add_assoc, repTo_succ, ih]; rfl
theorem repTo_some {l : List ByteArray} {m : Nat} {p : Nat × Nat} (h : repTo l m = some p) : p.1 < p.2 ∧ p.2 < l.length := by
  rw [repTo, List.findSome?_eq_some_iff] at h
  obtain ⟨_, a, _, _, ha, _⟩ := h
  rcases e : nxt l a with _ | k
  · rw [e] at ha; cases ha
  · rw [e] at ha
    simp only [Option.map_some, Option.some.injEq] at ha
    subst ha
    exact ⟨(nxt_some e).1, (nxt_some e).2.1⟩
/-- What the map of later places reads as, the places from i on told. -/
def laterF (l : List ByteArray) (i : Nat) (q : Value) : Option Int := match q with | .string s => (fromIx l i s).map Int.ofNat | _ => none
theorem laterF_end (l : List ByteArray) (q : Value) : laterF l l.length q = none := by
  rw [laterF.eq_def]
  split
  · rw [fromIx_end]; rfl
  · rfl
theorem laterF_here {l : List ByteArray} {i : Nat} {s : ByteArray} (h : l[i]? = some s) : laterF l i (.string s) = some (i : Int) := by
  show (fromIx l i s).map Int.ofNat = _
  rw [fromIx_here h]; rfl
theorem laterF_other {l : List ByteArray} {i : Nat} {s : ByteArray} (h : l[i]? = some s) {q : Value} (hq : q ≠ .string s) : laterF l i q = laterF l (i + 1) q := by
  rw [laterF.eq_def, laterF.eq_def]
  split
  · rename_i s'
    rw [fromIx_step (by rw [h]; intro e; injection e with e; exact hq (by rw [e]))]
  · rfl
theorem laterF_str {l : List ByteArray} {i : Nat} {s : ByteArray} (h : l[i]? = some s) : laterF l (i + 1) (.string s) = (nxt l i).map Int.ofNat := by
  show (fromIx l (i + 1) s).map Int.ofNat = _
  rw [nxt_at h]
/-- The row of next places, those from i on told. -/
def nextRow (l : List ByteArray) (i : Nat) : List Int := (List.range l.length).map fun j => if i ≤ j then (nxtN l j : Int) else 0
theorem nextRow_len (l : List ByteArray) (i : Nat) : (nextRow l i).length = l.length := by rw [nextRow]; simp
theorem nextRow_at {l : List ByteArray} {i j : Nat} (hj : j < l.length) : (nextRow l i)[j]? = some (if i ≤ j then (nxtN l j : Int) else 0) := by rw [nextRow]; simp [hj]
theorem nextRow_end (l : List ByteArray) : nextRow l l.length = List.replicate l.length 0 := by
  apply List.ext_getElem?
  intro j
  by_cases hj : j < l.length
  · rw [nextRow_at hj, if_neg (by omega), List.getElem?_replicate, if_pos hj]
  · rw [List.getElem?_eq_none_iff.2 (by rw [nextRow_len]; omega), List.getElem?_eq_none_iff.2 (by simp; omega)]
theorem nextRow_set {l : List ByteArray} {i : Nat} (hi : i < l.length) : (nextRow l (i + 1)).set i (nxtN l i : Int) = nextRow l i := by
  apply List.ext_getElem?
  intro j
  by_cases hj : j < l.length
  · rw [List.getElem?_set, nextRow_at hj, nextRow_at hj, nextRow_len]
    by_cases e : i = j
    · subst e; simp [hi]
    · rw [if_neg e]
      by_cases h2 : i + 1 ≤ j
      · rw [if_pos h2, if_pos (by omega)]
      · rw [if_neg h2, if_neg (by omega)]
  · rw [List.getElem?_eq_none_iff.2 (by rw [List.length_set, nextRow_len]; omega), List.getElem?_eq_none_iff.2 (by rw [nextRow_len]; omega)]
theorem nextRow_zero {l : List ByteArray} {i : Nat} (hi : i < l.length) (h : nxt l i = none) : nextRow l (i + 1) = nextRow l i := by
  rw [← nextRow_set hi, nxtN, h]
  apply List.ext_getElem?
  intro j
  rw [List.getElem?_set, nextRow_len]
  by_cases e : i = j
  · subst e; rw [if_pos rfl, if_pos hi, nextRow_at hi, if_neg (by omega)]; rfl
  · rw [if_neg e]
end Go.Proofs.Ytmdmnjjlpefigaa
