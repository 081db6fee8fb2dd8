/- Lists of changes as plain functions: increasing, good together, how many are odd. -/
import Derived.Test.YtoheahbkopbmhaaDoorP02
namespace Go.Proofs.YtoheahbkopbmhaaDoor
set_option linter.unusedVariables false
set_option linter.unusedSimpArgs false
open Go.ChangeShapes Go.WideShapes Go.ChangeAt Go.RowKit Go.Deep
theorem all_no {f : Nat → Bool} {n k : Nat} (hk : k < n) (h : f k = false) : (List.range n).all f = false := by
  have := all_bad hk h true
  simpa using this
theorem all_yes {f : Nat → Bool} {n : Nat} (h : ∀ j, j < n → f j = true) : (List.range n).all f = true := by
  rw [List.all_eq_true]
  exact fun j hj => h j (List.mem_range.1 hj)
def less (a b : ByteArray) : Bool := Op.bytesLess a.toList b.toList
theorem u8_tri (a b : UInt8) : (decide (a < b) = true ∧ (a == b) = false ∧ decide (b < a) = false) ∨ (decide (a < b) = false ∧ (a == b) = true ∧ decide (b < a) = false) ∨ (decide (a < b) = false ∧ (a == b) = false ∧ decide (b < a) = true) := by
  rcases Nat.lt_trichotomy a.toNat b.toNat with h | h | h
  · left
    refine ⟨decide_eq_true (UInt8.lt_iff_toNat_lt.2 h), ?_, decide_eq_false fun h' => by have := UInt8.lt_iff_toNat_lt.1 h'; omega⟩
    exact beq_eq_false_iff_ne.2 fun e => by subst e; omega
  · right; left
    have e : a = b := UInt8.toNat_inj.1 h
    subst e
    refine ⟨decide_eq_false fun h' => by have := UInt8.lt_iff_toNat_lt.1 h'; omega, by simp, decide_eq_false fun h' => by have := UInt8.lt_iff_toNat_lt.1 h'; omega⟩
  · right; right
    refine ⟨decide_eq_false fun h' => by have := UInt8.lt_iff_toNat_lt.1 h'; omega, ?_, decide_eq_true (UInt8.lt_iff_toNat_lt.2 h)⟩
    exact beq_eq_false_iff_ne.2 fun e => by subst e; omega
theorem bytes_tri : ∀ (a b : List UInt8), (Op.bytesLess a b = true ∧ (a == b) = false ∧ Op.bytesLess b a = false) ∨ (Op.bytesLess a b = false ∧ (a == b) = true ∧ Op.bytesLess b a = false) ∨ (Op.bytesLess a b = false ∧ (a == b) = false ∧ Op.bytesLess b a = true)
  | [], [] => by simp [Op.bytesLess]
  | [], b :: y => by simp [Op.bytesLess]
  | a :: x, [] => by simp [Op.bytesLess]
  | a :: x, b :: y => by
    have hc : (b == a) = (a == b) := Bool.beq_comm ..
    simp only [Op.bytesLess, List.cons_beq_cons, hc]
    rcases u8_tri a b with ⟨h1, h2, h3⟩ | ⟨h1, h2, h3⟩ | ⟨h1, h2, h3⟩
    · rw [h1, h2, h3]; simp
    · rw [h1, h2, h3]
      simpa using bytes_tri x y
    · rw [h1, h2, h3]; simp
theorem less_yes {a b : ByteArray} (h : less a b = true) : Op.bytesLess a.toList b.toList = true ∧ Op.bytesLess b.toList a.toList = false ∧ (b.toList == a.toList) = false := by
  rcases bytes_tri a.toList b.toList with ⟨h1, h2, h3⟩ | ⟨h1, h2, h3⟩ | ⟨h1, h2, h3⟩
  · exact ⟨h1, h3, by rw [← h2]; exact Bool.beq_comm ..⟩
  · rw [less, h1] at h; cases h
  · rw [less, h1] at h; cases h
theorem less_no {a b : ByteArray} (h : less a b = false) : Op.bytesLess a.toList b.toList = false ∧ (Op.bytesLess b.toList a.toList = true ∨ (Op.bytesLess b.toList a.toList = false ∧ (b.toList == a.toList) = true)) := by
  rcases bytes_tri a.toList b.toList with ⟨h1, h2, h3⟩ | ⟨h1, h2, h3⟩ | ⟨h1, h2, h3⟩
  · rw [less, h1] at h; cases h
  · exact ⟨h1, Or.inr ⟨h3, by rw [← h2]; exact Bool.beq_comm ..⟩⟩
  · exact ⟨h1, Or.inl h3⟩
def okInc (l : List ByteArray) (k : Nat) : Bool := decide (k = 0) || less (l.getD (k - 1) ByteArray.empty) (l.getD k ByteArray.empty)
theorem okInc_0 (l : List ByteArray) : okInc l 0 = true := rfl
theorem okInc_z {l : List ByteArray} {k : Nat} (h : ¬ 0 < k) : okInc l k = true := by
  have : k = 0 := by omega
  subst this; rfl
theorem okInc_pos {l : List ByteArray} {k : Nat} {x y : ByteArray} (hk : 0 < k) (hx : l[k - 1]? = some x) (hy : l[k]? = some y) : okInc l k = less x y := by
  simp [okInc, List.getD, hx, hy, show k ≠ 0 by omega]
def incB (l : List ByteArray) : Bool := (List.range l.length).all (okInc l)
def okCh (n : Int) (l : List ByteArray) (k : Nat) : Bool := goodChange n (l.getD k ByteArray.empty)
theorem okCh_at {n : Int} {l : List ByteArray} {k : Nat} {y : ByteArray} (hy : l[k]? = some y) : okCh n l k = goodChange n y := by simp [okCh, List.getD, hy]
def allCh (n : Int) (l : List ByteArray) : Bool := (List.range l.length).all (okCh n l)
def okWith (n : Int) (l : List ByteArray) (k : Nat) : Bool := okCh n l k && okInc l k
def goodWith (n : Int) (l : List ByteArray) : Bool := (List.range l.length).all (okWith n l) && inB l.length 1 30
theorem goodWith_parts (n : Int) (l : List ByteArray) : goodWith n l = (inB l.length 1 30 && incB l && allCh n l) := by
  have h : (List.range l.length).all (okWith n l) = (allCh n l && incB l) := by
    rw [Bool.eq_iff_iff, Bool.and_eq_true, allCh, incB, List.all_eq_true, List.all_eq_true, List.all_eq_true]
    constructor
    · intro h
      exact ⟨fun k hk => by have := h k hk; rw [okWith, Bool.and_eq_true] at this; exact this.1, fun k hk => by have := h k hk; rw [okWith, Bool.and_eq_true] at this; exact this.2⟩
    · rintro ⟨h1, h2⟩ k hk
      rw [okWith, h1 k hk, h2 k hk]; rfl
  rw [goodWith, h]
  rcases inB l.length 1 30 <;> rcases incB l <;> rcases allCh n l <;> rfl
theorem goodWith_stage {n : Int} {l : List ByteArray} (h : inB n 3 8 = false) : goodWith n l = false := by
  rcases l with _ | ⟨c, l⟩
  · rfl
  · rw [goodWith, all_bad (k := 0) (by simp) (by simp [okWith, okCh, List.getD, goodChange_stage h])]
theorem goodWith_stage_t {n : Int} {l : List ByteArray} (h : goodWith n l = true) : inB n 3 8 = true ∧ inB l.length 1 30 = true ∧ allCh n l = true := by
  rcases hs : inB n 3 8
  · rw [goodWith_stage hs] at h; cases h
  · rw [goodWith_parts, Bool.and_eq_true, Bool.and_eq_true] at h
    exact ⟨rfl, h.1.1, h.2⟩
theorem allCh_mem {n : Int} {l : List ByteArray} (h : allCh n l = true) : ∀ c ∈ l, goodChange n c = true := by
  intro c hc
  obtain ⟨k, hk⟩ := List.getElem?_of_mem hc
  rw [allCh, List.all_eq_true] at h
  have := h k (List.mem_range.2 (List.getElem?_eq_some_iff.1 hk).1)
  rwa [okCh_at hk] at this
def isOdd (m : Nat) (c : ByteArray) : Bool := !evenSwaps m c
def odds (m : Nat) (l : List ByteArray) (k : Nat) : Nat := ((l.take k).filter (isOdd m)).length
theorem odds_0 (m : Nat) (l : List ByteArray) : odds m l 0 = 0 := rfl
theorem odds_le (m : Nat) (l : List ByteArray) (k : Nat) : odds m l k ≤ k := Nat.le_trans (List.length_filter_le _ _) (by rw [List.length_take]; omega)
theorem odds_odd {m : Nat} {l : List ByteArray} {k : Nat} {c : ByteArray} (hc : l[k]? = some c) (h : isOdd m c = true) : odds m l (k + 1) = odds m l k + 1 := by
  simp [odds, List.take_add_one, hc, List.filter_append, h]
theorem odds_even {m : Nat} {l : List ByteArray} {k : Nat} {c : ByteArray} (hc : l[k]? = some c) (h : isOdd m c = false) : odds m l (k + 1) = odds m l k := by
  simp [odds, List.take_add_one, hc, List.filter_append, h]
def oddsR (n : Int) (l : List ByteArray) : Int := if goodWith n l = true then odds n.toNat l l.length else 0
theorem oddsR_f {n : Int} {l : List ByteArray} (h : goodWith n l = false) : oddsR n l = 0 := by rw [oddsR, if_neg (by rw [h]; simp)]
theorem oddsR_t {m : Nat} {l : List ByteArray} (h : goodWith m l = true) : oddsR m l = odds m l l.length := by rw [oddsR, if_pos h]; rfl
end Go.Proofs.YtoheahbkopbmhaaDoor
