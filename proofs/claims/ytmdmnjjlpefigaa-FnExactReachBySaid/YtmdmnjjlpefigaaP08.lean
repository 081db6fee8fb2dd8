/- Methods, calls and touches as plain functions. -/
import Derived.Test.YtmdmnjjlpefigaaP06
namespace Go.Proofs.Ytmdmnjjlpefigaa
set_option linter.unusedVariables false
set_option linter.unusedSimpArgs false
open Go.ChangeShapes Go.WideShapes Go.ChangeAt Go.RowKit Go.Deep
def lowB (s : ByteArray) (k : Nat) : Bool := inB (PlainAid.bt s k) 97 122
def nameOk (s : ByteArray) : Bool := (List.range s.size).all (lowB s) && inB s.size 1 10
def goodM (nm : ByteArray) (st : Int) (l : List ByteArray) : Bool := nameOk nm && (inB st 3 8 && (inB l.length 1 40 && allCh st l))
def goodK (nm : ByteArray) (st : Int) (l : List ByteArray) (b s : ByteArray) : Bool := goodM nm st l && (goodChange st b && goodChange st s)
theorem goodM_t {nm : ByteArray} {st : Int} {l : List ByteArray} (h : goodM nm st l = true) : nameOk nm = true ∧ (3 ≤ st ∧ st ≤ 8) ∧ (1 ≤ l.length ∧ l.length ≤ 40) ∧ allCh st l = true := by
  simp only [goodM, Bool.and_eq_true] at h
  have h1 := inB_t h.2.1
  have h2 := inB_t h.2.2.1
  exact ⟨h.1, h1, by omega, h.2.2.2⟩
theorem goodK_t {nm : ByteArray} {st : Int} {l : List ByteArray} {b s : ByteArray} (h : goodK nm st l b s = true) : goodM nm st l = true ∧ goodChange st b = true ∧ goodChange st s = true := by
  simpa only [goodK, Bool.and_eq_true] using h
theorem goodChange_small {n : Int} {c : ByteArray} (h : goodChange n c = true) : c.size ≤ 6 := by
  have hn := goodChange_n h
  rcases hs : sizeOk n c
  · rw [goodChange_size hs] at h; cases h
  · have := sizeOk_t hs; omega
/-! lead heads -/
theorem rAt_congr {a : ByteArray} {l m : List ByteArray} : ∀ (k : Nat), (∀ j, j < k → l[j]? = m[j]?) → rAt a l k = rAt a m k
  | 0, _ => rfl
  | k + 1, h => by
    rw [rAt, rAt, rAt_congr k (fun j hj => h j (by omega)), List.getD, List.getD, h k (by omega)]
/-- The head of a lead of the changes l whose last change is x. -/
def headX (st : Nat) (l : List ByteArray) (x : ByteArray) : ByteArray := applyR (rAt (roundsS st) l (l.length - 1)) x
theorem headX_set {st : Nat} {l : List ByteArray} {x : ByteArray} (h : 0 < l.length) : rAt (roundsS st) (l.set (l.length - 1) x) l.length = headX st l x := by
  obtain ⟨k, hk⟩ : ∃ k, l.length = k + 1 := ⟨l.length - 1, by omega⟩
  have e1 : (l.set (l.length - 1) x)[k]? = some x := by rw [hk, Nat.add_sub_cancel]; exact List.getElem?_set_self (by omega)
  conv => lhs; rw [hk]
  rw [rAt_succ (k := k) (by rw [← hk]; exact e1), headX, hk, Nat.add_sub_cancel]
  congr 1
  exact rAt_congr k fun j hj => by rw [List.getElem?_set_ne (by omega)]
theorem headX_take {st : Nat} {l : List ByteArray} {x : ByteArray} : applyR (rAt (roundsS st) (l.take (l.length - 1)) (l.length - 1)) x = headX st l x := by
  rw [headX, rAt_take _ _ _ _ (Nat.le_refl _)]
theorem headX_last {st : Nat} {l : List ByteArray} {x : ByteArray} (hx : l[l.length - 1]? = some x) : rAt (roundsS st) l l.length = headX st l x := by
  have h := (List.getElem?_eq_some_iff.1 hx).1
  have e : l.set (l.length - 1) x = l := by
    apply List.ext_getElem?
    intro i
    by_cases hi : i = l.length - 1
    · subst hi; rw [List.getElem?_set_self h, hx]
    · rw [List.getElem?_set_ne (fun e => hi e.symm)]
  rw [← headX_set (st := st) (x := x) (by omega), e]
theorem headX_size {st : Nat} (hs : st < 9) (l : List ByteArray) (x : ByteArray) : (headX st l x).size = st := by rw [headX, applyR_size, rAt_size, rounds_size st hs]
theorem good_rAt {a : ByteArray} (h : goodRow a = true) (l : List ByteArray) : ∀ k, goodRow (rAt a l k) = true
  | 0 => h
  | k + 1 => by rw [rAt]; exact good_apply (good_rAt h l k) _
theorem headX_good {st : Nat} (h3 : 3 ≤ st) (h8 : st ≤ 8) (l : List ByteArray) (x : ByteArray) : goodRow (headX st l x) = true := by
  rw [headX]; exact good_apply (good_rAt (good_rounds st (by omega) h3) l _) _
/-! calls: 'p', 'b', 's' -/
def isP (c : ByteArray) : Bool := c.toList == [112]
def isB (c : ByteArray) : Bool := c.toList == [98]
def isS (c : ByteArray) : Bool := c.toList == [115]
def isCl (c : ByteArray) : Bool := isP c || (isB c || isS c)
def lastC (l : List ByteArray) : ByteArray := l.getD (l.length - 1) ByteArray.empty
/-- The change that a call makes the last one. -/
def chOf (l : List ByteArray) (b s c : ByteArray) : ByteArray := if isB c = true then b else if isS c = true then s else lastC l
theorem lastC_at {l : List ByteArray} (h : 0 < l.length) : l[l.length - 1]? = some (lastC l) := by
  rw [lastC, List.getD, List.getElem?_eq_getElem (by omega)]; rfl
def callHd (st : Nat) (l : List ByteArray) (b s c : ByteArray) : ByteArray := headX st l (chOf l b s c)
/-! touches -/
def callB (t : ByteArray) (k : Nat) : Bool := (PlainAid.bt t k == 112) || ((PlainAid.bt t k == 98) || (PlainAid.bt t k == 115))
def goodT (t : ByteArray) : Bool := (List.range t.size).all (callB t) && inB t.size 1 60
theorem goodT_t {t : ByteArray} (h : goodT t = true) : 1 ≤ t.size ∧ t.size ≤ 60 ∧ ∀ k, k < t.size → callB t k = true := by
  rw [goodT, Bool.and_eq_true, List.all_eq_true] at h
  have := inB_t h.2
  exact ⟨by omega, by omega, fun k hk => h.1 k (List.mem_range.2 hk)⟩
def goodF (nm : ByteArray) (st : Int) (l : List ByteArray) (b s t : ByteArray) : Bool := goodK nm st l b s && goodT t
/-- The head of the k-th lead's call. -/
def letter (t : ByteArray) (k : Nat) : ByteArray := t.extract k (k + 1)
def hdAt (st : Nat) (l : List ByteArray) (b s t : ByteArray) : Nat → ByteArray
  | 0 => roundsS st
  | k + 1 => timesS (hdAt st l b s t k) (callHd st l b s (letter t k))
def hdsL (st : Nat) (l : List ByteArray) (b s t : ByteArray) (k : Nat) : List ByteArray := (List.range k).map (hdAt st l b s t)
theorem hdsL_len (st : Nat) (l : List ByteArray) (b s t : ByteArray) (k : Nat) : (hdsL st l b s t k).length = k := by simp [hdsL]
theorem hdsL_succ (st : Nat) (l : List ByteArray) (b s t : ByteArray) (k : Nat) : hdsL st l b s t (k + 1) = hdsL st l b s t k ++ [hdAt st l b s t k] := by rw [hdsL, List.range_succ, List.map_append]; rfl
theorem hdsL_at {st : Nat} {l : List ByteArray} {b s t : ByteArray} {k j : Nat} (h : j < k) : (hdsL st l b s t k)[j]? = some (hdAt st l b s t j) := by rw [hdsL, List.getElem?_map, List.getElem?_range h]; rfl
theorem hdAt_good {st : Nat} (h3 : 3 ≤ st) (h8 : st ≤ 8) (l : List ByteArray) (b s t : ByteArray) : ∀ k, goodRow (hdAt st l b s t k) = true ∧ (hdAt st l b s t k).size = st
  | 0 => ⟨good_rounds st (by omega) h3, rounds_size st (by omega)⟩
  | k + 1 => by
    have ih := hdAt_good h3 h8 l b s t k
    have hs := headX_size (st := st) (by omega) l (chOf l b s (letter t k))
    have hg := headX_good h3 h8 l (chOf l b s (letter t k))
    rw [hdAt]
    exact ⟨good_times ih.1 hg (by rw [ih.2, callHd, hs]), by rw [timesS, strOfNums_size, timesL_len, callHd, hs]⟩
theorem fits_good {a b : ByteArray} (g : goodRow b = true) (e : a.size = b.size) : fits a b := by
  intro k hk
  have := (goodRow_list g).2 _ (List.mem_of_getElem? (nums_at hk))
  rw [nums_len] at this
  omega
/-! rows of a touch -/
def tRows (st : Nat) (l : List ByteArray) (b s t : ByteArray) (k : Nat) : List ByteArray := (hdsL st l b s t k).flatMap fun h => rowsL h l l.length
theorem tRows_succ (st : Nat) (l : List ByteArray) (b s t : ByteArray) (k : Nat) : tRows st l b s t (k + 1) = tRows st l b s t k ++ rowsL (hdAt st l b s t k) l l.length := by
  rw [tRows, hdsL_succ, List.flatMap_append]; simp [tRows]
theorem tRows_len (st : Nat) (l : List ByteArray) (b s t : ByteArray) : ∀ k, (tRows st l b s t k).length = k * l.length
  | 0 => by simp [tRows, hdsL]
  | k + 1 => by rw [tRows_succ, List.length_append, tRows_len st l b s t k, rowsL_len, Nat.succ_mul]
def rowsOk (nm : ByteArray) (st : Int) (l : List ByteArray) (b s t : ByteArray) : Bool := goodF nm st l b s t && decide (t.size * l.length ≤ 800)
end Go.Proofs.Ytmdmnjjlpefigaa
