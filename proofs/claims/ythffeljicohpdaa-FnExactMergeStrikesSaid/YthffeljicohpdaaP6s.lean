/- Sorting texts: a strict order, sorted lists, repeats among neighbours. -/
import Derived.Test.YthffeljicohpdaaP19
namespace Go.Proofs.Ythffeljicohpdaa
set_option linter.unusedVariables false
set_option linter.unusedSimpArgs false
open Go.ChangeShapes Go.WideShapes Go.ChangeAt Go.RowKit Go.Deep
theorem bytes_trans : ∀ (a b c : List UInt8), Op.bytesLess a b = true → Op.bytesLess b c = true → Op.bytesLess a c = true
  | _, _, [], _, h => by cases ‹List UInt8› <;> simp [Op.bytesLess] at h
  | [], _, c :: z, _, _ => by simp [Op.bytesLess]
  | a :: x, [], c :: z, h, _ => by simp [Op.bytesLess] at h
  | a :: x, b :: y, c :: z, h1, h2 => by
    simp only [Op.bytesLess, Bool.or_eq_true, Bool.and_eq_true, decide_eq_true_eq, beq_iff_eq] at h1 h2 ⊢
    rcases h1 with h1 | ⟨rfl, h1⟩
    · rcases h2 with h2 | ⟨rfl, h2⟩
      · left
        have q1 := UInt8.lt_iff_toNat_lt.1 h1; have q2 := UInt8.lt_iff_toNat_lt.1 h2
        exact UInt8.lt_iff_toNat_lt.2 (by omega)
      · exact .inl h1
    · rcases h2 with h2 | ⟨rfl, h2⟩
      · exact .inl h2
      · exact .inr ⟨rfl, bytes_trans x y z h1 h2⟩
theorem less_trans {a b c : ByteArray} (h1 : less a b = true) (h2 : less b c = true) : less a c = true := bytes_trans _ _ _ h1 h2
theorem toList_inj {a b : ByteArray} (h : a.toList = b.toList) : a = b := by
  rw [ByteArray.toList_eq, ByteArray.toList_eq] at h
  cases a; cases b
  congr 1
  exact Array.ext' h
theorem less_tri (a b : ByteArray) : less a b = true ∨ a = b ∨ less b a = true := by
  rcases bytes_tri a.toList b.toList with ⟨h, _⟩ | ⟨_, h, _⟩ | ⟨_, _, h⟩
  · exact .inl h
  · exact .inr (.inl (toList_inj (by simpa using h)))
  · exact .inr (.inr h)
theorem less_irr (a : ByteArray) : less a a = false := by
  rcases h : less a a
  · rfl
  · have h' := h
    have := (less_yes h).1
    rcases bytes_tri a.toList a.toList with ⟨h1, h2, h3⟩ | ⟨h1, h2, h3⟩ | ⟨h1, h2, h3⟩
    · rw [h1] at h3; cases h3
    · rw [this] at h1; cases h1
    · rw [h3] at h1; cases h1
/-- Not behind. -/
def leS (a b : ByteArray) : Bool := !less b a
theorem leS_refl (a : ByteArray) : leS a a = true := by rw [leS, less_irr]; rfl
theorem leS_trans (a b c : ByteArray) (h1 : leS a b = true) (h2 : leS b c = true) : leS a c = true := by
  simp only [leS, Bool.not_eq_true'] at h1 h2 ⊢
  rcases h : less c a
  · rfl
  · rcases less_tri b c with q | q | q
    · have := less_trans q h; rw [h1] at this; cases this
    · subst q; rw [h] at h1; cases h1
    · rw [q] at h2; cases h2
theorem leS_total (a b : ByteArray) : (leS a b || leS b a) = true := by
  simp only [leS]
  rcases h : less b a
  · rfl
  · rcases h2 : less a b
    · rfl
    · have := less_trans h h2; rw [less_irr] at this; cases this
theorem leS_anti {a b : ByteArray} (h1 : leS a b = true) (h2 : leS b a = true) : a = b := by
  simp only [leS, Bool.not_eq_true'] at h1 h2
  rcases less_tri a b with q | q | q
  · rw [q] at h2; cases h2
  · exact q
  · rw [q] at h1; cases h1
def Srt (l : List ByteArray) : Prop := l.Pairwise fun a b => leS a b = true
theorem merge_srt {a b : List ByteArray} (ha : Srt a) (hb : Srt b) : Srt (List.merge a b leS) := List.pairwise_merge leS_trans leS_total a b ha hb
theorem merge_perm (a b : List ByteArray) : (List.merge a b leS).Perm (a ++ b) := List.merge_perm_append leS
theorem srt_unique : ∀ {a b : List ByteArray}, Srt a → Srt b → a.Perm b → a = b
  | [], b, _, _, h => h.nil_eq
  | x :: a, [], _, _, h => by have := h.length_eq; simp at this
  | x :: a, y :: b, ha, hb, h => by
    have hx := List.pairwise_cons.1 ha
    have hy := List.pairwise_cons.1 hb
    have e : x = y := by
      rcases List.mem_cons.1 (h.subset (List.mem_cons_self ..)) with q | q
      · exact q
      · rcases List.mem_cons.1 (h.symm.subset (List.mem_cons_self ..)) with r | r
        · exact r.symm
        · exact leS_anti (hx.1 y r) (hy.1 x q)
    subst e
    rw [srt_unique hx.2 hy.2 h.cons_inv]
def nextEq (l : List ByteArray) (k : Nat) : Bool := decide (l.getD k ByteArray.empty = l.getD (k - 1) ByteArray.empty)
theorem nextEq_at {l : List ByteArray} {k : Nat} {x y : ByteArray} (hx : l[k - 1]? = some x) (hy : l[k]? = some y) : nextEq l k = decide (y = x) := by simp [nextEq, List.getD, hx, hy]
/-- No text twice. -/
def nodupB (l : List ByteArray) : Bool := decide l.Nodup
theorem srt_nodup {l : List ByteArray} (h : Srt l) : l.Nodup ↔ ∀ k, 1 ≤ k → k < l.length → nextEq l k = false := by
  constructor
  · intro hn k h1 h2
    rw [nextEq, decide_eq_false_iff_not]
    rw [List.nodup_iff_pairwise_ne, List.pairwise_iff_getElem] at hn
    have := hn (k - 1) k (by omega) h2 (by omega)
    rw [List.getD, List.getD, List.getElem?_eq_getElem h2, List.getElem?_eq_getElem (by omega)]
    exact fun e => this (by simpa using e.symm)
  · intro hk
    have key : ∀ d i j, j = i + d + 1 → (hj : j < l.length) → (hi : i < l.length) → less l[i] l[j] = true := by
      intro d
      induction d with
      | zero =>
        intro i j e hj hi
        subst e
        have h1 := hk (i + 1) (by omega) hj
        rw [nextEq, decide_eq_false_iff_not, List.getD, List.getD, Nat.add_sub_cancel, List.getElem?_eq_getElem hj, List.getElem?_eq_getElem hi] at h1
        have h2 := (List.pairwise_iff_getElem.1 h) i (i + 1) hi hj (by omega)
        rcases less_tri l[i] l[i + 1] with q | q | q
        · exact q
        · exact absurd (by simpa using q.symm) h1
        · simp [leS, q] at h2
      | succ d ih =>
        intro i j e hj hi
        exact less_trans (ih i (i + d + 1) rfl (by omega) hi) (by
          subst e
          have h1 := hk (i + (d + 1) + 1) (by omega) hj
          rw [nextEq, decide_eq_false_iff_not, List.getD, List.getD, Nat.add_sub_cancel, List.getElem?_eq_getElem hj, List.getElem?_eq_getElem (by omega)] at h1
          have h2 := (List.pairwise_iff_getElem.1 h) (i + (d + 1)) (i + (d + 1) + 1) (by omega) hj (by omega)
          rcases less_tri (l[i + (d + 1)]'(by omega)) l[i + (d + 1) + 1] with q | q | q
          · exact q
          · exact absurd (by simpa using q.symm) h1
          · simp [leS, q] at h2)
    rw [List.nodup_iff_pairwise_ne, List.pairwise_iff_getElem]
    intro i j hi hj hij e
    have := key (j - i - 1) i j (by omega) hj hi
    rw [e, less_irr] at this
    cases this
end Go.Proofs.Ythffeljicohpdaa
