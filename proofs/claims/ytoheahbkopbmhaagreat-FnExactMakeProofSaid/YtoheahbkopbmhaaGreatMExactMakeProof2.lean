/- Texts 2 of 4 that the claim leans on: plain laws and the walks' contracts, in order. -/
import Derived.Test.YtoheahbkopbmhaaGreatMExactMakeProof1
import Derived.Test.YtoheahbkopbmhaaGreatRows
import Derived.BigRegion
import Derived.Maps.OwnSet
import Derived.Maps.Views
import Derived.WideKeyPair
import Derived.DeepKeys4
import Derived.Deep.DeepCutAuto
import Derived.Maps.StringElems
/- Methods, calls and touches as plain functions. -/
namespace Go.Proofs.YtoheahbkopbmhaaGreat
set_option linter.unusedVariables false
set_option linter.unusedSimpArgs false
open Go.ChangeShapes Go.WideShapes Go.ChangeAt Go.RowKit Go.Deep
def lowB (s : ByteArray) (k : Nat) : Bool := inB (PlainAid.bt s k) 97 122
def nameOk (s : ByteArray) : Bool := (List.range s.size).all (lowB s) && inB s.size 1 10
def goodM (nm : ByteArray) (st : Int) (l : List ByteArray) : Bool := nameOk nm && (inB st 3 8 && (inB l.length 1 40 && allCh st l))
def goodK (nm : ByteArray) (st : Int) (l : List ByteArray) (b s : ByteArray) : Bool := goodM nm st l && (goodChange st b && goodChange st s)
theorem goodM_t {nm : ByteArray} {st : Int} {l : List ByteArray} (h : goodM nm st l = true) : nameOk nm = true ∧ (3 ≤ st ∧ st ≤ 8) ∧ (1 ≤ l.length ∧ l.length ≤ 40) ∧ allCh st l = true := by
  simp only [goodM, Bool.and_eq_true] at h
  have h1 := inB_t h.2.1
  have h2 := inB_t h.2.2.1
  exact ⟨h.1, h1, by omega, h.2.2.2⟩
theorem goodK_t {nm : ByteArray} {st : Int} {l : List ByteArray} {b s : ByteArray} (h : goodK nm st l b s = true) : goodM nm st l = true ∧ goodChange st b = true ∧ goodChange st s = true := by
  simpa only [goodK, Bool.and_eq_true] using h
theorem goodChange_small {n : Int} {c : ByteArray} (h : goodChange n c = true) : c.size ≤ 6 := by
  have hn := goodChange_n h
  rcases hs : sizeOk n c
  · rw [goodChange_size hs] at h; cases h
  · have := sizeOk_t hs; omega
/-! lead heads -/
theorem rAt_congr {a : ByteArray} {l m : List ByteArray} : ∀ (k : Nat), (∀ j, j < k → l[j]? = m[j]?) → rAt a l k = rAt a m k
  | 0, _ => rfl
  | k + 1, h => by
    rw [rAt, rAt, rAt_congr k (fun j hj => h j (by omega)), List.getD, List.getD, h k (by omega)]
/-- The head of a lead of the changes l whose last change is x. -/
def headX (st : Nat) (l : List ByteArray) (x : ByteArray) : ByteArray := applyR (rAt (roundsS st) l (l.length - 1)) x
theorem headX_set {st : Nat} {l : List ByteArray} {x : ByteArray} (h : 0 < l.length) : rAt (roundsS st) (l.set (l.length - 1) x) l.length = headX st l x := by
  obtain ⟨k, hk⟩ : ∃ k, l.length = k + 1 := ⟨l.length - 1, by omega⟩
  have e1 : (l.set (l.length - 1) x)[k]? = some x := by rw [hk, Nat.add_sub_cancel]; exact List.getElem?_set_self (by omega)
  conv => lhs; rw [hk]
  rw [rAt_succ (k := k) (by rw [← hk]; exact e1), headX, hk, Nat.add_sub_cancel]
  congr 1
  exact rAt_congr k fun j hj => by rw [List.getElem?_set_ne (by omega)]
theorem headX_take {st : Nat} {l : List ByteArray} {x : ByteArray} : applyR (rAt (roundsS st) (l.take (l.length - 1)) (l.length - 1)) x = headX st l x := by
  rw [headX, rAt_take _ _ _ _ (Nat.le_refl _)]
theorem headX_last {st : Nat} {l : List ByteArray} {x : ByteArray} (hx : l[l.length - 1]? = some x) : rAt (roundsS st) l l.length = headX st l x := by
  have h := (List.getElem?_eq_some_iff.1 hx).1
  have e : l.set (l.length - 1) x = l := by
    apply List.ext_getElem?
    intro i
    by_cases hi : i = l.length - 1
    · subst hi; rw [List.getElem?_set_self h, hx]
    · rw [List.getElem?_set_ne (fun e => hi e.symm)]
  rw [← headX_set (st := st) (x := x) (by omega), e]
theorem headX_size {st : Nat} (hs : st < 9) (l : List ByteArray) (x : ByteArray) : (headX st l x).size = st := by rw [headX, applyR_size, rAt_size, rounds_size st hs]
theorem good_rAt {a : ByteArray} (h : goodRow a = true) (l : List ByteArray) : ∀ k, goodRow (rAt a l k) = true
  | 0 => h
  | k + 1 => by rw [rAt]; exact good_apply (good_rAt h l k) _
theorem headX_good {st : Nat} (h3 : 3 ≤ st) (h8 : st ≤ 8) (l : List ByteArray) (x : ByteArray) : goodRow (headX st l x) = true := by
  rw [headX]; exact good_apply (good_rAt (good_rounds st (by omega) h3) l _) _
/-! calls: 'p', 'b', 's' -/
def isP (c : ByteArray) : Bool := c.toList == [112]
def isB (c : ByteArray) : Bool := c.toList == [98]
def isS (c : ByteArray) : Bool := c.toList == [115]
def isCl (c : ByteArray) : Bool := isP c || (isB c || isS c)
def lastC (l : List ByteArray) : ByteArray := l.getD (l.length - 1) ByteArray.empty
/-- The change that a call makes the last one. -/
def chOf (l : List ByteArray) (b s c : ByteArray) : ByteArray := if isB c = true then b else if isS c = true then s else lastC l
theorem lastC_at {l : List ByteArray} (h : 0 < l.length) : l[l.length - 1]? = some (lastC l) := by
  rw [lastC, List.getD, List.getElem?_eq_getElem (by omega)]; rfl
def callHd (st : Nat) (l : List ByteArray) (b s c : ByteArray) : ByteArray := headX st l (chOf l b s c)
/-! touches -/
def callB (t : ByteArray) (k : Nat) : Bool := (PlainAid.bt t k == 112) || ((PlainAid.bt t k == 98) || (PlainAid.bt t k == 115))
def goodT (t : ByteArray) : Bool := (List.range t.size).all (callB t) && inB t.size 1 60
theorem goodT_t {t : ByteArray} (h : goodT t = true) : 1 ≤ t.size ∧ t.size ≤ 60 ∧ ∀ k, k < t.size → callB t k = true := by
  rw [goodT, Bool.and_eq_true, List.all_eq_true] at h
  have := inB_t h.2
  exact ⟨by omega, by omega, fun k hk => h.1 k (List.mem_range.2 hk)⟩
def goodF (nm : ByteArray) (st : Int) (l : List ByteArray) (b s t : ByteArray) : Bool := goodK nm st l b s && goodT t
/-- The head of the k-th lead's call. -/
def letter (t : ByteArray) (k : Nat) : ByteArray := t.extract k (k + 1)
def hdAt (st : Nat) (l : List ByteArray) (b s t : ByteArray) : Nat → ByteArray
  | 0 => roundsS st
  | k + 1 => timesS (hdAt st l b s t k) (callHd st l b s (letter t k))
def hdsL (st : Nat) (l : List ByteArray) (b s t : ByteArray) (k : Nat) : List ByteArray := (List.range k).map (hdAt st l b s t)
theorem hdsL_len (st : Nat) (l : List ByteArray) (b s t : ByteArray) (k : Nat) : (hdsL st l b s t k).length = k := by simp [hdsL]
theorem hdsL_succ (st : Nat) (l : List ByteArray) (b s t : ByteArray) (k : Nat) : hdsL st l b s t (k + 1) = hdsL st l b s t k ++ [hdAt st l b s t k] := by rw [hdsL, List.range_succ, List.map_append]; rfl
theorem hdsL_at {st : Nat} {l : List ByteArray} {b s t : ByteArray} {k j : Nat} (h : j < k) : (hdsL st l b s t k)[j]? = some (hdAt st l b s t j) := by rw [hdsL, List.getElem?_map, List.getElem?_range h]; rfl
theorem hdAt_good {st : Nat} (h3 : 3 ≤ st) (h8 : st ≤ 8) (l : List ByteArray) (b s t : ByteArray) : ∀ k, goodRow (hdAt st l b s t k) = true ∧ (hdAt st l b s t k).size = st
  | 0 => ⟨good_rounds st (by omega) h3, rounds_size st (by omega)⟩
  | k + 1 => by
    have ih := hdAt_good h3 h8 l b s t k
    have hs := headX_size (st := st) (by omega) l (chOf l b s (letter t k))
    have hg := headX_good h3 h8 l (chOf l b s (letter t k))
    rw [hdAt]
    exact ⟨good_times ih.1 hg (by rw [ih.2, callHd, hs]), by rw [timesS, strOfNums_size, timesL_len, callHd, hs]⟩
theorem fits_good {a b : ByteArray} (g : goodRow b = true) (e : a.size = b.size) : fits a b := by
  intro k hk
  have := (goodRow_list g).2 _ (List.mem_of_getElem? (nums_at hk))
  rw [nums_len] at this
  omega
/-! rows of a touch -/
def tRows (st : Nat) (l : List ByteArray) (b s t : ByteArray) (k : Nat) : List ByteArray := (hdsL st l b s t k).flatMap fun h => rowsL h l l.length
theorem tRows_succ (st : Nat) (l : List ByteArray) (b s t : ByteArray) (k : Nat) : tRows st l b s t (k + 1) = tRows st l b s t k ++ rowsL (hdAt st l b s t k) l l.length := by
  rw [tRows, hdsL_succ, List.flatMap_append]; simp [tRows]
theorem tRows_len (st : Nat) (l : List ByteArray) (b s t : ByteArray) : ∀ k, (tRows st l b s t k).length = k * l.length
  | 0 => by simp [tRows, hdsL]
  | k + 1 => by rw [tRows_succ, List.length_append, tRows_len st l b s t k, rowsL_len, Nat.succ_mul]
def rowsOk (nm : ByteArray) (st : Int) (l : List ByteArray) (b s t : ByteArray) : Bool := goodF nm st l b s t && decide (t.size * l.length ≤ 800)
end Go.Proofs.YtoheahbkopbmhaaGreat
/- Plain laws of closures: the rows that some rows generate, breadth first. -/
namespace Go.Proofs.YtoheahbkopbmhaaGreat
set_option linter.unusedVariables false
set_option linter.unusedSimpArgs false
open Go.ChangeShapes Go.WideShapes Go.ChangeAt Go.RowKit Go.Deep
/-- A row that is good and of a stage. -/
def RowN (n : Nat) (s : ByteArray) : Prop := goodRow s = true ∧ s.size = n
theorem RowN.times {n : Nat} {a b : ByteArray} (h : RowN n a) (g : RowN n b) : RowN n (timesS a b) :=
  ⟨good_times h.1 g.1 (by rw [h.2, g.2]), by rw [timesS, strOfNums_size, timesL_len, g.2]⟩
theorem RowN.st {n : Nat} {a : ByteArray} (h : RowN n a) : 3 ≤ n ∧ n ≤ 8 := by have := goodRow_n h.1; rw [h.2] at this; exact this
theorem rowN_rounds {n : Nat} (h3 : 3 ≤ n) (h8 : n ≤ 8) : RowN n (roundsS n) := ⟨good_rounds n (by omega) h3, rounds_size n (by omega)⟩
theorem rowN_fits {n : Nat} {a b : ByteArray} (h : RowN n a) (g : RowN n b) : fits a b := fits_good g.1 (by rw [h.2, g.2])
theorem rowN_inj {n : Nat} {a b : ByteArray} (h : RowN n a) (g : RowN n b) (e : place a = place b) : a = b := place_inj h.1 g.1 (by rw [h.2, g.2]) e
theorem rowN_place {n : Nat} {a : ByteArray} (h : RowN n a) : place a < fact n := by have := place_lt a; rwa [h.2] at this
theorem fact_le8 : ∀ {n : Nat}, n ≤ 8 → fact n ≤ 40320 := fun {n} h => by
  have : ∀ n, n < 9 → fact n ≤ 40320 := of_decide_eq_true (by kernel_rfl)
  exact this n (by omega)
/-- Different rows of a stage are at most so many. -/
theorem rows_le {n : Nat} {l : List ByteArray} (hn : l.Nodup) (hg : ∀ s ∈ l, RowN n s) : l.length ≤ fact n := by
  have h1 : (l.map place).Nodup := by
    rw [List.nodup_iff_pairwise_ne, List.pairwise_map]
    rw [List.nodup_iff_pairwise_ne] at hn
    exact hn.imp_of_mem fun {x y} hx hy hne e => hne (rowN_inj (hg x hx) (hg y hy) e)
  have h2 := h1.length_le_of_subset (l₂ := List.range (fact n)) (fun p hp => by
    obtain ⟨s, hs, rfl⟩ := List.mem_map.1 hp
    exact List.mem_range.2 (rowN_place (hg s hs)))
  rw [List.length_map, List.length_range] at h2
  exact h2
/-- As many rows as there are are all of them. -/
theorem rows_all {n : Nat} {l : List ByteArray} (hn : l.Nodup) (hg : ∀ s ∈ l, RowN n s) (hl : fact n ≤ l.length) {x : ByteArray} (hx : RowN n x) : x ∈ l := by
  rcases Classical.em (x ∈ l) with h | h
  · exact h
  · have := rows_le (n := n) (l := x :: l) (List.nodup_cons.2 ⟨h, hn⟩) (fun s hs => by
      rcases List.mem_cons.1 hs with rfl | hs
      · exact hx
      · exact hg s hs)
    rw [List.length_cons] at this
    omega
/-- A product that is new comes last. -/
def inL (L : List ByteArray) (s : ByteArray) : Bool := L.any fun y => decide (y = s)
theorem inL_iff {L : List ByteArray} {s : ByteArray} : inL L s = true ↔ s ∈ L := by
  rw [inL, List.any_eq_true]
  constructor
  · rintro ⟨y, hy, e⟩
    rw [← of_decide_eq_true e]; exact hy
  · intro h
    exact ⟨s, h, decide_eq_true rfl⟩
def clAdd (x : ByteArray) (L : List ByteArray) (g : ByteArray) : List ByteArray := if inL L (timesS x g) = true then L else L ++ [timesS x g]
theorem clAdd_in {x g : ByteArray} {L : List ByteArray} (h : timesS x g ∈ L) : clAdd x L g = L := by rw [clAdd, if_pos (inL_iff.2 h)]
theorem clAdd_new {x g : ByteArray} {L : List ByteArray} (h : timesS x g ∉ L) : clAdd x L g = L ++ [timesS x g] := by rw [clAdd, if_neg (fun e => h (inL_iff.1 e))]
def clPart (gs : List ByteArray) (x : ByteArray) (j : Nat) (L : List ByteArray) : List ByteArray := (gs.take j).foldl (clAdd x) L
theorem clPart_0 (gs : List ByteArray) (x : ByteArray) (L : List ByteArray) : clPart gs x 0 L = L := rfl
theorem clPart_succ {gs : List ByteArray} {x g : ByteArray} {j : Nat} (L : List ByteArray) (h : gs[j]? = some g) : clPart gs x (j + 1) L = clAdd x (clPart gs x j L) g := by
  rw [clPart, take_succ_some h, List.foldl_append]; rfl
def clAt (gs : List ByteArray) (r : ByteArray) : Nat → List ByteArray
  | 0 => [r]
  | k + 1 => match (clAt gs r k)[k]? with
    | some x => clPart gs x gs.length (clAt gs r k)
    | none => clAt gs r k
theorem clAt_more {gs : List ByteArray} {r x : ByteArray} {k : Nat} (h : (clAt gs r k)[k]? = some x) : clAt gs r (k + 1) = clPart gs x gs.length (clAt gs r k) := by rw [clAt, h]
theorem clAt_stop {gs : List ByteArray} {r : ByteArray} {k : Nat} (h : (clAt gs r k).length ≤ k) : clAt gs r (k + 1) = clAt gs r k := by
  rw [clAt, List.getElem?_eq_none_iff.2 h]
/-- All that some rows generate. -/
def clF (n : Nat) (gs : List ByteArray) : List ByteArray := clAt gs (roundsS n) (fact n)
theorem clAdd_pre (x g : ByteArray) (L : List ByteArray) : L <+: clAdd x L g := by
  by_cases h : timesS x g ∈ L
  · rw [clAdd_in h]; exact List.prefix_refl _
  · rw [clAdd_new h]; exact List.prefix_append _ _
theorem foldl_pre (x : ByteArray) : ∀ (gs L : List ByteArray), L <+: gs.foldl (clAdd x) L
  | [], L => List.prefix_refl _
  | g :: gs, L => (clAdd_pre x g L).trans (foldl_pre x gs _)
theorem clPart_pre (gs : List ByteArray) (x : ByteArray) (j : Nat) (L : List ByteArray) : L <+: clPart gs x j L := foldl_pre x _ L
theorem clPart_step (gs : List ByteArray) (x : ByteArray) (L : List ByteArray) (j : Nat) : clPart gs x j L <+: clPart gs x (j + 1) L := by
  rcases h : gs[j]? with _ | g
  · rw [clPart, clPart, List.take_of_length_le (by rw [List.getElem?_eq_none_iff] at h; omega), List.take_of_length_le (by rw [List.getElem?_eq_none_iff] at h; omega)]
    exact List.prefix_refl _
  · rw [clPart_succ L h]; exact clAdd_pre _ _ _
theorem clPart_mono (gs : List ByteArray) (x : ByteArray) (L : List ByteArray) (i : Nat) : ∀ d, clPart gs x i L <+: clPart gs x (i + d) L
  | 0 => List.prefix_refl _
  | d + 1 => (clPart_mono gs x L i d).trans (clPart_step gs x L (i + d))
theorem clAt_step (gs : List ByteArray) (r : ByteArray) (k : Nat) : clAt gs r k <+: clAt gs r (k + 1) := by
  rcases h : (clAt gs r k)[k]? with _ | x
  · rw [clAt_stop (List.getElem?_eq_none_iff.1 h)]; exact List.prefix_refl _
  · rw [clAt_more h]; exact clPart_pre _ _ _ _
theorem clAt_mono (gs : List ByteArray) (r : ByteArray) (k : Nat) : ∀ d, clAt gs r k <+: clAt gs r (k + d)
  | 0 => List.prefix_refl _
  | d + 1 => (clAt_mono gs r k d).trans (clAt_step gs r (k + d))
theorem clAt_stays {gs : List ByteArray} {r : ByteArray} {k : Nat} (h : (clAt gs r k).length ≤ k) : ∀ d, clAt gs r (k + d) = clAt gs r k
  | 0 => rfl
  | d + 1 => by
    have e := clAt_stays h d
    rw [← Nat.add_assoc, clAt_stop (by rw [e]; omega), e]
/-! what the rows are like -/
def ClOk (n : Nat) (L : List ByteArray) : Prop := L.Nodup ∧ ∀ s ∈ L, RowN n s
theorem ClOk.add {n : Nat} {x g : ByteArray} {L : List ByteArray} (h : ClOk n L) (hx : RowN n x) (hg : RowN n g) : ClOk n (clAdd x L g) := by
  by_cases e : timesS x g ∈ L
  · rw [clAdd_in e]; exact h
  · rw [clAdd_new e]
    refine ⟨List.nodup_append.2 ⟨h.1, by simp, fun a ha b hb he => e (by rw [← List.mem_singleton.1 hb, ← he]; exact ha)⟩, fun s hs => ?_⟩
    rcases List.mem_append.1 hs with hs | hs
    · exact h.2 s hs
    · rw [List.mem_singleton.1 hs]; exact hx.times hg
theorem ClOk.fold {n : Nat} {x : ByteArray} (hx : RowN n x) : ∀ (gs L : List ByteArray), (∀ g ∈ gs, RowN n g) → ClOk n L → ClOk n (gs.foldl (clAdd x) L)
  | [], _, _, h => h
  | g :: gs, L, hg, h => ClOk.fold hx gs _ (fun y hy => hg y (List.mem_cons_of_mem _ hy)) (h.add hx (hg g (List.mem_cons_self ..)))
theorem ClOk.part {n : Nat} {x : ByteArray} {gs L : List ByteArray} (h : ClOk n L) (hx : RowN n x) (hg : ∀ g ∈ gs, RowN n g) (j : Nat) : ClOk n (clPart gs x j L) := ClOk.fold hx _ _ (fun g h => hg g (List.mem_of_mem_take h)) h
theorem clAt_ok {n : Nat} {gs : List ByteArray} {r : ByteArray} (hr : RowN n r) (hg : ∀ g ∈ gs, RowN n g) : ∀ k, ClOk n (clAt gs r k)
  | 0 => ⟨by simp [clAt], fun s hs => by rw [List.mem_singleton.1 hs]; exact hr⟩
  | k + 1 => by
    have h := clAt_ok hr hg k
    rcases e : (clAt gs r k)[k]? with _ | x
    · rw [clAt_stop (List.getElem?_eq_none_iff.1 e)]; exact h
    · rw [clAt_more e]
      exact h.part (h.2 x (List.mem_of_getElem? e)) hg _
theorem ClOk.le {n : Nat} {L : List ByteArray} (h : ClOk n L) : L.length ≤ fact n := rows_le h.1 h.2
section
variable {n : Nat} {gs : List ByteArray} {r : ByteArray}
theorem clF_ok (h3 : 3 ≤ n) (h8 : n ≤ 8) (hg : ∀ g ∈ gs, RowN n g) : ClOk n (clF n gs) := clAt_ok (rowN_rounds h3 h8) hg _
/-- Behind the last round. -/
theorem clF_end (h3 : 3 ≤ n) (h8 : n ≤ 8) (hg : ∀ g ∈ gs, RowN n g) {k : Nat} (h : (clAt gs (roundsS n) k).length = k) : clF n gs = clAt gs (roundsS n) k := by
  have h1 : k ≤ fact n := by have := (clAt_ok (rowN_rounds h3 h8) hg k).le; omega
  obtain ⟨d, e⟩ : ∃ d, fact n = k + d := ⟨fact n - k, by omega⟩
  rw [clF, e, clAt_stays (by omega)]
theorem clF_pre (h3 : 3 ≤ n) (h8 : n ≤ 8) (hg : ∀ g ∈ gs, RowN n g) (k : Nat) : clAt gs (roundsS n) k <+: clF n gs := by
  by_cases h1 : k ≤ fact n
  · obtain ⟨d, e⟩ : ∃ d, fact n = k + d := ⟨fact n - k, by omega⟩
    rw [clF, e]
    exact clAt_mono _ _ _ _
  · obtain ⟨d, e⟩ : ∃ d, k = fact n + d := ⟨k - fact n, by omega⟩
    rw [e, clAt_stays (clAt_ok (rowN_rounds h3 h8) hg _).le]
    exact List.prefix_refl _
theorem clPart_F (h3 : 3 ≤ n) (h8 : n ≤ 8) (hg : ∀ g ∈ gs, RowN n g) {k : Nat} {x : ByteArray} (hx : (clAt gs (roundsS n) k)[k]? = some x) {j : Nat} (hj : j ≤ gs.length) : clPart gs x j (clAt gs (roundsS n) k) <+: clF n gs := by
  obtain ⟨d, e⟩ : ∃ d, gs.length = j + d := ⟨gs.length - j, by omega⟩
  have h1 := clPart_mono gs x (clAt gs (roundsS n) k) j d
  rw [← e, ← clAt_more hx] at h1
  exact h1.trans (clF_pre h3 h8 hg _)
theorem clAt_first (k : Nat) : (clAt gs r k)[0]? = some r := by
  have := clAt_mono gs r 0 k
  rw [Nat.zero_add] at this
  obtain ⟨t, ht⟩ := this
  rw [← ht]; rfl
theorem clAt_pos (k : Nat) : 0 < (clAt gs r k).length := (List.getElem?_eq_some_iff.1 (clAt_first (gs := gs) (r := r) k)).1
end
end Go.Proofs.YtoheahbkopbmhaaGreat
/- Proofs that are made: the rows of a touch in order, each with its place; plain. -/
namespace Go.Proofs.YtoheahbkopbmhaaGreat
set_option linter.unusedVariables false
set_option linter.unusedSimpArgs false
open Go.ChangeShapes Go.WideShapes Go.ChangeAt Go.RowKit Go.Deep
theorem rAtN {n : Nat} {a : ByteArray} (h : RowN n a) (l : List ByteArray) : ∀ k, RowN n (rAt a l k)
  | 0 => h
  | k + 1 => by
    have ih := rAtN h l k
    rw [rAt]; exact ⟨good_apply ih.1 _, by rw [applyR_size]; exact ih.2⟩
theorem rowsLN {n : Nat} {a : ByteArray} (h : RowN n a) (l : List ByteArray) (m : Nat) : ∀ s ∈ rowsL a l m, RowN n s := fun s hs => by
  rw [rowsL, List.mem_map] at hs
  obtain ⟨k, _, rfl⟩ := hs
  exact rAtN h l k
theorem tRowsN {st : Nat} (h3 : 3 ≤ st) (h8 : st ≤ 8) (l : List ByteArray) (b s t : ByteArray) (k : Nat) : ∀ x ∈ tRows st l b s t k, RowN st x := fun x hx => by
  rw [tRows, List.mem_flatMap] at hx
  obtain ⟨h, hh, hx⟩ := hx
  rw [hdsL, List.mem_map] at hh
  obtain ⟨i, _, rfl⟩ := hh
  exact rowsLN (hdAt_good h3 h8 l b s t i) l _ x hx
/-- Where a row stands first. -/
def posOf (r : ByteArray) : List ByteArray → Nat
  | [] => 0
  | x :: l => if x = r then 0 else posOf r l + 1
theorem posOf_at : ∀ {l : List ByteArray} {i : Nat} {r : ByteArray}, l.Nodup → l[i]? = some r → posOf r l = i
  | x :: l, 0, r, _, h => by
    rw [List.getElem?_cons_zero] at h
    injection h with h
    rw [posOf, if_pos h]
  | x :: l, i + 1, r, hn, h => by
    rw [List.getElem?_cons_succ] at h
    obtain ⟨h1, h2⟩ := List.nodup_cons.1 hn
    have hm := List.mem_of_getElem? h
    have hne : x ≠ r := fun e => h1 (by rw [e]; exact hm)
    rw [posOf, if_neg hne, posOf_at h2 h]
  | [], _, _, _, h => by cases h
def gLn (n : Nat) (R : List ByteArray) (r : ByteArray) : Line3 := (r, ((posOf r R / n : Nat) : Int), ((posOf r R % n : Nat) : Int))
def mpL (n : Nat) (R : List ByteArray) : List Line3 := (R.mergeSort leS).map (gLn n R)
theorem gLn_at {n : Nat} {R : List ByteArray} {i : Nat} {r : ByteArray} (hn : R.Nodup) (h : R[i]? = some r) : gLn n R r = (r, ((i / n : Nat) : Int), ((i % n : Nat) : Int)) := by rw [gLn, posOf_at hn h]
theorem sort_srt (R : List ByteArray) : Srt (R.mergeSort leS) := List.pairwise_mergeSort leS_trans leS_total R
theorem sort_is {R L : List ByteArray} (hp : L.Perm R) (hs : Srt L) : L = R.mergeSort leS := srt_unique hs (sort_srt R) (hp.trans (List.mergeSort_perm R leS).symm)
theorem mpL_of {n : Nat} {R : List ByteArray} {L : List Line3} (hp : L.Perm (R.map (gLn n R))) (hs : Srt (L.map (·.1))) : L = mpL n R := by
  have h1 : (L.map (·.1)).Perm R := by
    have := hp.map (fun x : Line3 => x.1)
    rw [List.map_map] at this
    have e : R.map ((fun x : Line3 => x.1) ∘ gLn n R) = R := by
      conv => rhs; rw [← List.map_id R]
      exact List.map_congr_left fun x _ => rfl
    rwa [e] at this
  have h2 := sort_is h1 hs
  have h3 : L = (L.map (·.1)).map (gLn n R) := by
    rw [List.map_map]
    conv => lhs; rw [← List.map_id L]
    exact List.map_congr_left fun x hx => by
      obtain ⟨r, _, rfl⟩ := List.mem_map.1 (hp.mem_iff.1 hx)
      rfl
  rw [h3, h2]; rfl
theorem mpL_len (n : Nat) (R : List ByteArray) : (mpL n R).length = R.length := by rw [mpL, List.length_map, List.length_mergeSort]
/-- What MakeProof answers. -/
def mkOk (nm : ByteArray) (st : Int) (l : List ByteArray) (kb ks t : ByteArray) : Bool := (rowsOk nm st l kb ks t && decide (tRows st.toNat l kb ks t t.size).Nodup) && decide (hdAt st.toNat l kb ks t t.size = roundsS st.toNat)
def mkH (nm : ByteArray) (st : Int) (l : List ByteArray) (kb ks t : ByteArray) : List ByteArray := if mkOk nm st l kb ks t = true then hdsL st.toNat l kb ks t (t.size + 1) else []
def mkM (nm : ByteArray) (st : Int) (l : List ByteArray) (kb ks t : ByteArray) : List Line3 := if mkOk nm st l kb ks t = true then mpL l.length (tRows st.toNat l kb ks t t.size) else []
theorem mk_t {nm : ByteArray} {st : Int} {l : List ByteArray} {kb ks t : ByteArray} (h : mkOk nm st l kb ks t = true) : mkH nm st l kb ks t = hdsL st.toNat l kb ks t (t.size + 1) ∧ mkM nm st l kb ks t = mpL l.length (tRows st.toNat l kb ks t t.size) := ⟨by rw [mkH, if_pos h], by rw [mkM, if_pos h]⟩
theorem mk_f {nm : ByteArray} {st : Int} {l : List ByteArray} {kb ks t : ByteArray} (h : mkOk nm st l kb ks t = false) : mkH nm st l kb ks t = [] ∧ mkM nm st l kb ks t = [] := ⟨by rw [mkH, if_neg (by rw [h]; simp)], by rw [mkM, if_neg (by rw [h]; simp)]⟩
theorem mk_len (nm : ByteArray) (st : Int) (l : List ByteArray) (kb ks t : ByteArray) : (mkH nm st l kb ks t).length ≤ 61 ∧ (mkM nm st l kb ks t).length ≤ 800 := by
  rcases h : mkOk nm st l kb ks t
  · rw [(mk_f h).1, (mk_f h).2]; simp
  · rw [(mk_t h).1, (mk_t h).2, hdsL_len, mpL_len, tRows_len]
    simp only [mkOk, rowsOk, goodF, Bool.and_eq_true, decide_eq_true_eq] at h
    have := (goodT_t h.1.1.1.2).2.1
    omega
end Go.Proofs.YtoheahbkopbmhaaGreat
/- Blocks of different element types are distinct. -/
namespace Go.Proofs.YtoheahbkopbmhaaGreat
set_option linter.unusedVariables false
set_option linter.unusedSimpArgs false
open Go.ChangeShapes Go.WideShapes Go.ChangeAt Go.RowKit Go.Deep
theorem blkNe {α : Type} {e : α → List Value} {s : Nat} {E : TypeId} {w : World} {base : Nat} {A : Option Addr} {n c : Nat} {l : List α} {p : Nat} {t : TypeId} {cs : List Value} (h : Owned e s E w base A n c l) (k : Blk w p t cs) (hE : E ≠ t) : some p ≠ (Value.slice A n c).ownBlock := by
  intro e2
  rcases h.2.2.2 with ⟨hv, _⟩ | ⟨g, cap, cur, hv, _, hh, _⟩
  · rw [hv] at e2; cases e2
  · rw [hv] at e2
    injection e2 with e2
    subst e2
    have k' : w.heap[p]? = some (.cells ⟨cs⟩ t (0, 0)) := k
    rw [hh] at k'
    injection k' with k'
    injection k' with _ k' _
    exact hE k'
theorem capOf {α : Type} {e : α → List Value} {s : Nat} {E : TypeId} {w : World} {base : Nat} {A : Option Addr} {n c : Nat} {l : List α} (h : Owned e s E w base A n c l) : n ≤ c ∧ c ≤ 9223372036854775807 := by
  rcases h.2.2.2 with ⟨hv, _⟩ | ⟨g, cap, cur, hv, _, _, hnc, hcm, _⟩
  · injection hv with _ h1 h2; omega
  · injection hv with _ _ h2; unfold maxLen at hcm; omega
/-- 'append(xs, x)' onto a row of the call's own: where the new row lies. -/
theorem wpList_append_rec3 {P : Program} {α : Type} {e : α → List Value} {s bytes : Nat} {t E : TypeId} {z : Value} (he : ElemOk P t E z s bytes) {ops : Array Oper} {rest : List Oper} {o : Oper} {a : Act} {Q : Exit → Act → World → Prop} {W : World}
    (hgd : o.guard = none) (S X : Operand) (ho : o.op = .call { callee := .builtin .append, args := #[S, X], argTypes := #[t, t] })
    {base : Nat} {A : Option Addr} {n c : Nat} {l : List α} (hs : a.eval S = .slice A n c) (hown : Owned e s E W base A n c l) (x : α) {b cx : Nat} (hx : a.eval X = .slice (some ⟨b, 0, none⟩) 1 cx)
    (hnew : Box W b (e x)) (h1 : ∀ u ∈ e x, u.oneCell' = true) (hn : n ≤ 16777216) (hby : bytes ≤ 4096) (hbase : base ≤ W.heap.size)
    (h : ∀ A' c' w', Owned e s E w' base A' (n + 1) c' (l ++ [x]) → W.grownBy w' (Value.slice A n c).ownBlock → (∀ k, (Value.slice A' (n + 1) c').ownBlock = some k → (Value.slice A n c).ownBlock = some k ∨ W.heap.size ≤ k) → wpList P ops Q rest (a.put o.dst (.slice A' (n + 1) c')) w') :
    wpList P ops Q (o :: rest) a W := by
  obtain ⟨i0, hi, hz0, hz1, hz2⟩ := info_parts he.info
  refine wpList_append_lies W hgd S X t ho base E i0 z s bytes he.under hi hz0 hz1 hz2 he.zs he.pos _ n _ hs hown.2.2 ⟨b, 0, none⟩ 1 cx (e x) hx (by rw [hown.1]; omega)
    (fun j u hu => by rw [Go.WideShapes.add_plain, Nat.zero_add]; exact hnew j u hu) h1 (by omega) (by unfold maxLen; omega) ?_ hbase W.heap.size rfl ?_
  · exact Nat.le_trans (Nat.mul_le_mul (show n + 1 ≤ 16777217 by omega) hby) (by decide)
  · intro g cap w' hown' hg hl _
    have ho' : Owned e s E w' base (some ⟨g, 0, none⟩) (n + 1) cap (l ++ [x]) := ⟨hown.1, by simp [hown.2.1], by simpa using hown'⟩
    refine h _ _ w' ho' hg fun k hk => ?_
    injection hk with hk
    dsimp only at hk
    subst hk
    rcases hl with hl | hl
    · exact .inl hl
    · exact .inr (by omega)
end Go.Proofs.YtoheahbkopbmhaaGreat
/- The state in which the reference makes a proof: marks of the rows seen, their places. -/
namespace Go.Proofs.YtoheahbkopbmhaaGreat
set_option linter.unusedVariables false
set_option linter.unusedSimpArgs false
open Go.ChangeShapes Go.WideShapes Go.ChangeAt Go.RowKit Go.Deep
def mkMarks (F n : Nat) (R : List ByteArray) (B : List Bool) (I : List Int) : Prop := R.Nodup ∧ (∀ p, p < F → B[p]? = some (decide (∃ r ∈ R, place r = p))) ∧ ∀ (i : Nat) (r : ByteArray), R[i]? = some r → I[place r]? = some (((i / n * 40 + i % n : Nat)) : Int)
theorem marks_start (F n : Nat) (I : List Int) : mkMarks F n [] (List.replicate F false) I := ⟨List.nodup_nil, fun p hp => by simp [hp], fun i r h => by simp at h⟩
theorem marks_dup {st F n : Nat} {R : List ByteArray} {B : List Bool} {I : List Int} {r : ByteArray} (h : mkMarks F n R B I) (hR : ∀ x ∈ R, RowN st x) (hr : RowN st r) (hF : F = fact st) (hB : B[place r]? = some true) : r ∈ R := by
  have h1 := h.2.1 (place r) (by rw [hF]; exact rowN_place hr)
  rw [hB] at h1
  injection h1 with h1
  obtain ⟨x, hx, e⟩ := of_decide_eq_true h1.symm
  rw [← rowN_inj (hR x hx) hr e]; exact hx
theorem marks_step {st F n : Nat} {R : List ByteArray} {B : List Bool} {I : List Int} {r : ByteArray} {v : Int} (h : mkMarks F n R B I) (hR : ∀ x ∈ R, RowN st x) (hr : RowN st r) (hF : F = fact st) (hB : B[place r]? = some false) (hBl : B.length = F) (hIl : I.length = F) (hv : v = ((R.length / n * 40 + R.length % n : Nat) : Int)) :
    mkMarks F n (R ++ [r]) (B.set (place r) true) (I.set (place r) v) := by
  have hp : place r < F := by rw [hF]; exact rowN_place hr
  have h1 := h.2.1 (place r) hp
  rw [hB] at h1
  injection h1 with h1
  have hno := of_decide_eq_false h1.symm
  have hnr : r ∉ R := fun hm => hno ⟨r, hm, rfl⟩
  refine ⟨?_, ?_, ?_⟩
  · rw [List.nodup_append]
    exact ⟨h.1, List.nodup_cons.2 ⟨by simp, List.nodup_nil⟩, fun a ha b hb => by rw [List.mem_singleton.1 hb]; rintro rfl; exact hnr ha⟩
  · intro p hpF
    by_cases e : place r = p
    · subst e
      rw [List.getElem?_set_self (by omega), decide_eq_true (show ∃ x ∈ R ++ [r], place x = place r from ⟨r, by simp, rfl⟩)]
    · rw [List.getElem?_set_ne e, h.2.1 p hpF]
      congr 1
      refine decide_eq_decide.2 ⟨fun ⟨x, hx, ex⟩ => ⟨x, List.mem_append_left _ hx, ex⟩, fun ⟨x, hx, ex⟩ => ?_⟩
      rcases List.mem_append.1 hx with q | q
      · exact ⟨x, q, ex⟩
      · rw [List.mem_singleton.1 q] at ex; exact absurd ex e
  · intro i x hx
    rcases Nat.lt_or_ge i R.length with hi | hi
    · rw [List.getElem?_append_left hi] at hx
      have hne : place r ≠ place x := fun e => hnr (by rw [rowN_inj hr (hR x (List.mem_of_getElem? hx)) e]; exact List.mem_of_getElem? hx)
      rw [List.getElem?_set_ne hne]
      exact h.2.2 i x hx
    · rw [List.getElem?_append_right hi] at hx
      have hi2 : i - R.length = 0 := by
        have := (List.getElem?_eq_some_iff.1 hx).1
        simp at this; omega
      rw [hi2] at hx
      injection hx with hx
      subst hx
      obtain rfl : i = R.length := by omega
      rw [List.getElem?_set_self (by omega), hv]
theorem tRows_more (st : Nat) (l : List ByteArray) (b s t : ByteArray) (k : Nat) : ∀ d, ∃ rest, tRows st l b s t (k + d) = tRows st l b s t k ++ rest
  | 0 => ⟨[], by simp⟩
  | d + 1 => by
    obtain ⟨rest, h⟩ := tRows_more st l b s t k d
    exact ⟨_, by rw [← Nat.add_assoc, tRows_succ, h, List.append_assoc]⟩
theorem tRows_pre {st : Nat} {l : List ByteArray} {b s t : ByteArray} {k j T : Nat} {r : ByteArray} (hk : k < T) (hr : (rowsL (hdAt st l b s t k) l l.length)[j]? = some r) : ∃ rest, tRows st l b s t T = (tRows st l b s t k ++ (rowsL (hdAt st l b s t k) l l.length).take j) ++ r :: rest := by
  obtain ⟨rest, h⟩ := tRows_more st l b s t (k + 1) (T - (k + 1))
  rw [show k + 1 + (T - (k + 1)) = T by omega, tRows_succ] at h
  have hj := (List.getElem?_eq_some_iff.1 hr)
  obtain ⟨hj1, hj2⟩ := hj
  have e : rowsL (hdAt st l b s t k) l l.length = (rowsL (hdAt st l b s t k) l l.length).take j ++ r :: (rowsL (hdAt st l b s t k) l l.length).drop (j + 1) := by
    conv => lhs; rw [← List.take_append_drop j (rowsL (hdAt st l b s t k) l l.length)]
    rw [List.drop_eq_getElem_cons hj1, hj2]
  refine ⟨(rowsL (hdAt st l b s t k) l l.length).drop (j + 1) ++ rest, ?_⟩
  rw [h]
  conv => lhs; rw [e]
  simp
theorem dup_no {a rest : List ByteArray} {r : ByteArray} (h : r ∈ a) : ¬ (a ++ r :: rest).Nodup := fun hn => by
  rw [List.nodup_append] at hn
  exact hn.2.2 r h r (List.mem_cons_self ..) rfl
/-- The world while the rows are gathered. -/
structure MP (w wr : World) (lo base b0 b2 b8 : Nat) (c0 c2 c8 : List Value) (AH : Option Addr) (nH cH : Nat) (H : List ByteArray) (gb gi F : Nat) (B : List Bool) (I : List Int) (Aa : Option Addr) (m ca : Nat) (R : List ByteArray) : Prop where
  low : Below w.heap.size w wr
  k0 : Blk wr b0 34 c0
  k2 : Blk wr b2 31 c2
  k8 : Blk wr b8 31 c8
  hd : Owned strE 1 9 wr lo AH nH cH H
  hr : InRange (.slice AH nH cH) lo base
  wh : Owned boolE 1 4 wr lo (some ⟨gb, 0, none⟩) F F B
  le : Owned intE 1 3 wr lo (some ⟨gi, 0, none⟩) F F I
  al : Owned strE 1 9 wr base Aa m ca R
  wlo : w.heap.size ≤ lo
  lob : lo ≤ base
  bs : base ≤ wr.heap.size
section
variable {w wr w' : World} {lo base b0 b2 b8 : Nat} {c0 c2 c8 : List Value} {AH : Option Addr} {nH cH : Nat} {H : List ByteArray} {gb gi F : Nat} {B : List Bool} {I : List Int} {Aa : Option Addr} {m ca : Nat} {R : List ByteArray}
theorem MP.up (h : MP w wr lo base b0 b2 b8 c0 c2 c8 AH nH cH H gb gi F B I Aa m ca R) (hb : Below wr.heap.size wr w') : MP w w' lo base b0 b2 b8 c0 c2 c8 AH nH cH H gb gi F B I Aa m ca R :=
  ⟨below_go h.low hb, h.k0.up hb, h.k2.up hb, h.k8.up hb, h.hd.up hb, h.hr, h.wh.up hb, h.le.up hb, h.al.up hb, h.wlo, h.lob, Nat.le_trans h.bs hb.size⟩
theorem MP.setB {p : Nat} {y v : Bool} (h : MP w wr lo base b0 b2 b8 c0 c2 c8 AH nH cH H gb gi F B I Aa m ca R) (hy : B[p]? = some y) : MP w (wr.setCell ⟨gb, p, none⟩ (.bool v)) lo base b0 b2 b8 c0 c2 c8 AH nH cH H gb gi F (B.set p v) I Aa m ca R := by
  have hp := h.wh.put (k := p) (j := 0) (x := v) (u := .bool v) hy (by decide) rfl
  simp only [Nat.mul_one, Nat.add_zero] at hp
  have hg := hp.2
  have hgl := h.wh.at_own.1
  refine ⟨h.low.grown hg h.low.size (fun k hk => by injection hk with hk; have := h.wlo; omega), h.k0.grown hg (fun e => blkNe h.wh h.k0 (by decide) e), h.k2.grown hg (fun e => blkNe h.wh h.k2 (by decide) e), h.k8.grown hg (fun e => blkNe h.wh h.k8 (by decide) e), h.hd.kept hg (fun k hk e => h.hd.ne h.wh (by decide) k hk e), h.hr, hp.1, h.le.kept hg (fun k hk e => h.le.ne h.wh (by decide) k hk e), h.al.kept hg (fun k hk e => h.al.ne h.wh (by decide) k hk e), h.wlo, h.lob, Nat.le_trans h.bs hg.size⟩
theorem MP.setI {p : Nat} {y v : Int} (h : MP w wr lo base b0 b2 b8 c0 c2 c8 AH nH cH H gb gi F B I Aa m ca R) (hy : I[p]? = some y) : MP w (wr.setCell ⟨gi, p, none⟩ (.int .i64 v)) lo base b0 b2 b8 c0 c2 c8 AH nH cH H gb gi F B (I.set p v) Aa m ca R := by
  have hp := h.le.put (k := p) (j := 0) (x := v) (u := .int .i64 v) hy (by decide) rfl
  simp only [Nat.mul_one, Nat.add_zero] at hp
  have hg := hp.2
  have hgl := h.le.at_own.1
  refine ⟨h.low.grown hg h.low.size (fun k hk => by injection hk with hk; have := h.wlo; omega), h.k0.grown hg (fun e => blkNe h.le h.k0 (by decide) e), h.k2.grown hg (fun e => blkNe h.le h.k2 (by decide) e), h.k8.grown hg (fun e => blkNe h.le h.k8 (by decide) e), h.hd.kept hg (fun k hk e => h.hd.ne h.le (by decide) k hk e), h.hr, h.wh.kept hg (fun k hk e => h.wh.ne h.le (by decide) k hk e), hp.1, h.al.kept hg (fun k hk e => h.al.ne h.le (by decide) k hk e), h.wlo, h.lob, Nat.le_trans h.bs hg.size⟩
theorem MP.app {A' : Option Addr} {m' c' : Nat} {R' : List ByteArray} (h : MP w wr lo base b0 b2 b8 c0 c2 c8 AH nH cH H gb gi F B I Aa m ca R) (ho : Owned strE 1 9 w' base A' m' c' R') (hg : wr.grownBy w' (Value.slice Aa m ca).ownBlock) : MP w w' lo base b0 b2 b8 c0 c2 c8 AH nH cH H gb gi F B I A' m' c' R' :=
  ⟨h.low.grown hg h.low.size (fun k hk => by have := (h.al.blk hk).1; have := h.wlo; have := h.lob; omega), h.k0.grown hg (blkNe h.al h.k0 (by decide)), h.k2.grown hg (blkNe h.al h.k2 (by decide)), h.k8.grown hg (blkNe h.al h.k8 (by decide)), h.hd.kept hg (fun k hk e => by have := (h.hr k hk).2; have := (h.al.blk e).1; omega), h.hr, h.wh.kept hg (fun k hk e => h.wh.ne h.al (by decide) k hk e), h.le.kept hg (fun k hk e => h.le.ne h.al (by decide) k hk e), ho, h.wlo, h.lob, Nat.le_trans h.bs hg.size⟩
theorem blkTy {w : World} {p q : Nat} {t u : TypeId} {cs ds : List Value} (h : Blk w p t cs) (g : Blk w q u ds) (hE : t ≠ u) : p ≠ q := fun e => by
  subst e
  have h' : w.heap[p]? = some (.cells ⟨cs⟩ t (0, 0)) := h
  have g' : w.heap[p]? = some (.cells ⟨ds⟩ u (0, 0)) := g
  rw [h'] at g'
  injection g' with g'
  injection g' with _ g' _
  exact hE g'
theorem MP.grownL {AL : Option Addr} {j cL : Nat} {M : List Line3} (h : MP w wr lo base b0 b2 b8 c0 c2 c8 AH nH cH H gb gi F B I Aa m ca R) (ol : Owned lineE 3 55 wr lo AL j cL M) (hg : wr.grownBy w' (Value.slice AL j cL).ownBlock) : MP w w' lo base b0 b2 b8 c0 c2 c8 AH nH cH H gb gi F B I Aa m ca R :=
  ⟨h.low.grown hg h.low.size (fun k hk => by have := (ol.blk hk).1; have := h.wlo; omega), h.k0.grown hg (blkNe ol h.k0 (by decide)), h.k2.grown hg (blkNe ol h.k2 (by decide)), h.k8.grown hg (blkNe ol h.k8 (by decide)), h.hd.kept hg (fun k hk e => h.hd.ne ol (by decide) k hk e), h.hr, h.wh.kept hg (fun k hk e => h.wh.ne ol (by decide) k hk e), h.le.kept hg (fun k hk e => h.le.ne ol (by decide) k hk e), h.al.kept hg (fun k hk e => h.al.ne ol (by decide) k hk e), h.wlo, h.lob, Nat.le_trans h.bs hg.size⟩
theorem MP.set8 {v : Value} (h : MP w wr lo base b0 b2 b8 c0 c2 c8 AH nH cH H gb gi F B I Aa m ca R) (hb8 : w.heap.size ≤ b8) (h28 : b2 ≠ b8) : MP w (wr.setCell ⟨b8, 1, none⟩ v) lo base b0 b2 b8 c0 c2 (c8.set 1 v) AH nH cH H gb gi F B I Aa m ca R := by
  have hg := only_set (p := ⟨b8, 1, none⟩) wr v
  have n0 := blkTy h.k0 h.k8 (by decide)
  exact ⟨h.low.grown hg h.low.size (fun k hk => by injection hk with hk; dsimp only at hk; omega), h.k0.far (p := ⟨b8, 1, none⟩) n0 v, h.k2.far (p := ⟨b8, 1, none⟩) h28 v, h.k8.set_ 1 v, h.hd.kept hg (fun k hk e => blkNe h.hd h.k8 (by decide) (e.trans hk.symm)), h.hr, h.wh.kept hg (fun k hk e => blkNe h.wh h.k8 (by decide) (e.trans hk.symm)), h.le.kept hg (fun k hk e => blkNe h.le h.k8 (by decide) (e.trans hk.symm)), h.al.kept hg (fun k hk e => blkNe h.al h.k8 (by decide) (e.trans hk.symm)), h.wlo, h.lob, Nat.le_trans h.bs hg.size⟩
end
/-- The world while the program puts the lines together. -/
structure LP (w wr : World) (l8 b0 b2 b8 : Nat) (c0 c2 : List Value) (v0 v8 : Value) (AH : Option Addr) (nH cH : Nat) (H : List ByteArray) (A8 : Option Addr) (n8 c8 : Nat) (R : List ByteArray) (AL : Option Addr) (j cL : Nat) (M : List Line3) : Prop where
  low : Below w.heap.size w wr
  k0 : Blk wr b0 34 c0
  k2 : Blk wr b2 31 c2
  k8 : Blk wr b8 31 [v0, v8]
  hd : Owned strE 1 9 wr w.heap.size AH nH cH H
  rw : Owned strE 1 9 wr l8 A8 n8 c8 R
  ol : Owned lineE 3 55 wr w.heap.size AL j cL M
section
variable {w wr w' : World} {l8 b0 b2 b8 : Nat} {c0 c2 : List Value} {v0 v8 v : Value} {AH : Option Addr} {nH cH : Nat} {H : List ByteArray} {A8 : Option Addr} {n8 c8 : Nat} {R : List ByteArray} {AL : Option Addr} {j cL : Nat} {M : List Line3}
theorem LP.up (h : LP w wr l8 b0 b2 b8 c0 c2 v0 v8 AH nH cH H A8 n8 c8 R AL j cL M) (hb : Below wr.heap.size wr w') : LP w w' l8 b0 b2 b8 c0 c2 v0 v8 AH nH cH H A8 n8 c8 R AL j cL M :=
  ⟨below_go h.low hb, h.k0.up hb, h.k2.up hb, h.k8.up hb, h.hd.up hb, h.rw.up hb, h.ol.up hb⟩
theorem LP.app {A' : Option Addr} {j' c' : Nat} {M' : List Line3} (h : LP w wr l8 b0 b2 b8 c0 c2 v0 v8 AH nH cH H A8 n8 c8 R AL j cL M) (ho : Owned lineE 3 55 w' w.heap.size A' j' c' M') (hg : wr.grownBy w' (Value.slice AL j cL).ownBlock) : LP w w' l8 b0 b2 b8 c0 c2 v0 v8 AH nH cH H A8 n8 c8 R A' j' c' M' :=
  ⟨h.low.grown hg h.low.size (fun k hk => (h.ol.blk hk).1), h.k0.grown hg (blkNe h.ol h.k0 (by decide)), h.k2.grown hg (blkNe h.ol h.k2 (by decide)), h.k8.grown hg (blkNe h.ol h.k8 (by decide)), h.hd.kept hg (fun k hk e => h.hd.ne h.ol (by decide) k hk e), h.rw.kept hg (fun k hk e => h.rw.ne h.ol (by decide) k hk e), ho⟩
theorem LP.set8 (h : LP w wr l8 b0 b2 b8 c0 c2 v0 v8 AH nH cH H A8 n8 c8 R AL j cL M) (hb8 : w.heap.size ≤ b8) (h28 : b2 ≠ b8) : LP w (wr.setCell ⟨b8, 1, none⟩ v) l8 b0 b2 b8 c0 c2 v0 v AH nH cH H A8 n8 c8 R AL j cL M := by
  have hg := only_set (p := ⟨b8, 1, none⟩) wr v
  exact ⟨h.low.grown hg h.low.size (fun k hk => by injection hk with hk; dsimp only at hk; omega), h.k0.far (p := ⟨b8, 1, none⟩) (blkTy h.k0 h.k8 (by decide)) v, h.k2.far (p := ⟨b8, 1, none⟩) h28 v, h.k8.set_ 1 v, h.hd.kept hg (fun k hk e => blkNe h.hd h.k8 (by decide) (e.trans hk.symm)), h.rw.kept hg (fun k hk e => blkNe h.rw h.k8 (by decide) (e.trans hk.symm)), h.ol.kept hg (fun k hk e => blkNe h.ol h.k8 (by decide) (e.trans hk.symm))⟩
end
theorem lineUp (x : Line3) : ∀ u ∈ lineE x, u.oneCell' = true := fun u hu => by
  simp [lineE] at hu
  rcases hu with rfl | rfl | rfl <;> rfl
theorem bytesNe {a b : ByteArray} (h : a ≠ b) : (a.toList == b.toList) = false := by
  rw [beq_eq_false_iff_ne]
  exact fun e => h (toList_inj e)
end Go.Proofs.YtoheahbkopbmhaaGreat
/- The walks through the smallest functions. -/
namespace Go.Proofs.YtoheahbkopbmhaaGreat
set_option linter.unusedVariables false
set_option linter.unusedSimpArgs false
open Go.ChangeShapes Go.WideShapes Go.ChangeAt Go.RowKit Go.Deep

theorem spec_l1In (n a b : Int) (w : World) :
    Calls Tryz.prog 58 #[.int .i64 n, .int .i64 a, .int .i64 b] w fun e w' => e = .returned (.bool (inB n a b)) ∧ w = w' := by
  by_cases h : a ≤ n
  all_goals
    go_in
    go_wp2
    all_goals go_ret
    all_goals (refine ⟨?_, rfl⟩; simp only [inB]; simp_all <;> omega)

theorem impl_isStage (n : Int) (w : World) :
    Calls Tryz.prog 97 #[.int .i64 n] w fun e w' => e = .returned (.bool (inB n 3 8)) ∧ w = w' := by
  by_cases h : 3 ≤ n
  all_goals
    go_in
    go_wp2
    all_goals go_ret
    all_goals (refine ⟨?_, rfl⟩; simp only [inB]; simp_all <;> omega)

end Go.Proofs.YtoheahbkopbmhaaGreat
/- The walks through changes: which are good, which places stay, which swap. -/
namespace Go.Proofs.YtoheahbkopbmhaaGreat
set_option linter.unusedVariables false
set_option linter.unusedSimpArgs false
open Go.ChangeShapes Go.WideShapes Go.ChangeAt Go.RowKit Go.Deep
theorem spec_l2Stays {c : ByteArray} {p : Int} {w : World} (hz : c.size ≤ 16777216) (hp : I64 p) :
    Calls Tryz.prog 83 #[.string c, .int .i64 p] w fun e w' => e = .returned (.bool (stays c p)) ∧ w = w' := by
  have hb := PlainAid.get_bt c
  go_in
  go_wp2
  go_loopw [5] (fun i wr => ∃ k : Nat, k ≤ c.size ∧ i = .int .i64 k ∧ Hid (stays c p = ((digs c).drop k).contains p) ∧ w = wr) (fun i _ => c.size - (intOf i).toNat)
  case atStart => exact ⟨0, Nat.zero_le _, rfl, Lib.hid rfl, rfl⟩
  case round =>
    obtain ⟨k, hk, rfl, HK, rfl⟩ := hrel
    by_cases hlt : k < c.size
    · have hw := wrap_bt c k
      have hw2 := wrap_dg c k
      have HD := Lib.hid (digs_drop hlt)
      rcases he : (dg c k == p)
      · have he' := Lib.hid he
        go_wp2
        go_roundw
        case rel =>
          refine ⟨k + 1, by omega, by go_num, Lib.hid ?_, trivial⟩
          rw [HK.out, HD.out, List.contains_cons, show (p == dg c k) = false by rw [← he'.out]; exact Bool.beq_comm ..]
          rfl
        case measure => simp [intOf]; omega
      · have he' := Lib.hid he
        go_wp2
        go_ret
        refine ⟨ret_bool ?_, rfl⟩
        rw [HK.out, HD.out, List.contains_cons, show (p == dg c k) = true by rw [← he'.out]; exact Bool.beq_comm ..]
        rfl
    · obtain rfl : k = c.size := by omega
      have e0 : stays c p = false := by rw [HK.out, List.drop_eq_nil_of_le (by rw [digs_len]; omega)]; rfl
      go_wp2
      go_ret
      exact ⟨ret_bool e0.symm, rfl⟩
theorem spec_l2Change {c : ByteArray} {n : Int} {w : World} (hz : c.size ≤ 16777216) (hn : I64 n) :
    Calls Tryz.prog 56 #[.int .i64 n, .string c] w fun e w' => e = .returned (.bool (goodChange n c)) ∧ w = w' := by
  have hb := PlainAid.get_bt c
  rcases h1 : inB n 3 8
  · have e0 := Lib.hid (goodChange_stage (c := c) h1)
    go_in
    go_wp2_with (first | (go_at_call 58; refine (spec_l1In _ _ _ _).mono ?_; rintro e w' ⟨rfl, rfl⟩))
    go_ret
    exact ⟨ret_bool e0.out.symm, rfl⟩
  have hn3 := inB_t h1
  have H1 := Lib.hid h1
  rcases h2 : sizeOk n c
  · have e0 := Lib.hid (goodChange_size h2)
    have h3 := sizeOk_f h2
    by_cases h4 : 0 < c.size
    · obtain ⟨he1, he2⟩ := some_bytes h4
      have h5 := h3 h4
      go_in
      go_wp2_with (first | (go_at_call 58; refine (spec_l1In _ _ _ _).mono ?_; rintro e w' ⟨rfl, rfl⟩))
      go_ret
      exact ⟨ret_bool e0.out.symm, rfl⟩
    · obtain ⟨he1, he2⟩ := no_bytes h4
      go_in
      go_wp2_with (first | (go_at_call 58; refine (spec_l1In _ _ _ _).mono ?_; rintro e w' ⟨rfl, rfl⟩))
      go_ret
      exact ⟨ret_bool e0.out.symm, rfl⟩
  obtain ⟨h4, h5⟩ := sizeOk_t h2
  obtain ⟨he1, he2⟩ := some_bytes h4
  rcases h6 : isDash c
  · have e0 := Lib.hid (goodChange_chain h1 h2 h6)
    have h7 : (c.toList == [45]) = false := h6
    go_in
    go_wp2_with (first | (go_at_call 58; refine (spec_l1In _ _ _ _).mono ?_; rintro e w' ⟨rfl, rfl⟩))
    go_loopw [5, 6] (fun v i wr => ∃ (k : Nat) (x : Int), k ≤ c.size ∧ i = .int .i64 k ∧ v = .int .i64 x ∧ 0 ≤ x ∧ x ≤ n ∧ Hid (goodChange n c = chain n x ((digs c).drop k)) ∧ w = wr) (fun _ i _ => c.size - (intOf i).toNat)
    case atStart => exact ⟨0, 0, Nat.zero_le _, rfl, rfl, by omega, by omega, Lib.hid e0.out, rfl⟩
    case round =>
      obtain ⟨k, x, hk, rfl, rfl, hx0, hxn, HK, rfl⟩ := hrel
      by_cases hlt : k < c.size
      · have hw := wrap_bt c k
        have hw2 := wrap_dg c k
        have HD := Lib.hid (digs_drop hlt)
        have hdg := dg_in c k
        rcases hin : inB (dg c k) (x + 1) n
        · have e1 := Lib.hid (show goodChange n c = false by rw [HK.out, HD.out, chain, stepOk, hin]; rfl)
          have hin' := Lib.hid hin
          go_wp2_with (first | (go_at_call 58; refine (spec_l1In _ _ _ _).mono ?_; rintro e w' ⟨rfl, rfl⟩))
          go_ret
          exact ⟨ret_bool e1.out.symm, rfl⟩
        have hin1 := inB_t hin
        rcases hq : ((dg c k - x) % 2 == 0)
        · have e1 := Lib.hid (show goodChange n c = chain n (dg c k) ((digs c).drop (k + 1)) by rw [HK.out, HD.out, chain, stepOk, hin, hq]; rfl)
          go_wp2_with (first | (go_at_call 58; refine (spec_l1In _ _ _ _).mono ?_; rintro e w' ⟨rfl, rfl⟩))
          go_roundw
          case rel => exact ⟨k + 1, dg c k, by omega, by go_num, rfl, by omega, by omega, e1, trivial⟩
          case measure => simp [intOf]; omega
        · have e1 := Lib.hid (show goodChange n c = false by rw [HK.out, HD.out, chain, stepOk, hin, hq]; rfl)
          go_wp2_with (first | (go_at_call 58; refine (spec_l1In _ _ _ _).mono ?_; rintro e w' ⟨rfl, rfl⟩))
          go_ret
          exact ⟨ret_bool e1.out.symm, rfl⟩
      · obtain rfl : k = c.size := by omega
        have e1 := Lib.hid (show goodChange n c = ((n - x) % 2 == 0) by rw [HK.out, List.drop_eq_nil_of_le (by rw [digs_len]; omega), chain])
        go_wp2
        go_ret
        exact ⟨ret_bool e1.out.symm, rfl⟩
  · have e0 := Lib.hid (goodChange_dash h1 h2 h6)
    have h7 : (c.toList == [45]) = true := h6
    go_in
    go_wp2_with (first | (go_at_call 58; refine (spec_l1In _ _ _ _).mono ?_; rintro e w' ⟨rfl, rfl⟩))
    go_ret
    exact ⟨ret_bool e0.out.symm, rfl⟩
end Go.Proofs.YtoheahbkopbmhaaGreat
/- The walks through changes, the program's side. -/
namespace Go.Proofs.YtoheahbkopbmhaaGreat
set_option linter.unusedVariables false
set_option linter.unusedSimpArgs false
open Go.ChangeShapes Go.WideShapes Go.ChangeAt Go.RowKit Go.Deep
set_option maxRecDepth 100000 in
theorem impl_places {c : ByteArray} {w : World} (hz : c.size ≤ 16777216) :
    Calls Tryz.prog 98 #[.string c] w fun e w' => ∃ A' c', e = .returned (.tuple #[.slice A' (plR c).length c', .bool (validD c)]) ∧
      Owned intE 1 3 w' w.heap.size A' (plR c).length c' (plR c) ∧ Below w.heap.size w w' := by
  have hb := PlainAid.get_bt c
  go_in
  go_wp2
  go_loopw [4, 9] (fun v i wr => ∃ (k : Nat) (A' : Option Addr) (m c' : Nat), k ≤ c.size ∧ i = .int .i64 k ∧ v = .slice A' m c' ∧ m = k ∧ Hid (∀ j, j < k → inB (dg c j) 1 8 = true) ∧ Owned intE 1 3 wr w.heap.size A' m c' ((digs c).take k) ∧ Below w.heap.size w wr) (fun _ i _ => c.size - (intOf i).toNat)
  case atStart => exact ⟨0, _, _, _, Nat.zero_le _, rfl, rfl, rfl, Lib.hid (fun j hj => absurd hj (by omega)), Owned.empty intE_len _ _ (by simp), by (repeat' (first | (with_reducible exact Below.refl _ _) | (with_reducible assumption) | (with_reducible refine below_drewN ?_ _) | (with_reducible refine Below.drew ?_) | (with_reducible refine below_alloc ?_ _) | (with_reducible refine Below.alloc ?_ ?_ _) | (with_reducible refine Below.setCell ?_ ?_ _) | (with_reducible refine below_go ?_ (by with_reducible assumption)) | (with_reducible refine below_then (by with_reducible assumption) ?_ ?_) | go_size))⟩
  case round =>
    obtain ⟨k, A', m, c', hk, rfl, rfl, rfl, HK, ho, hbl⟩ := hrel
    have HO := Lib.hid ho
    have hsz := hbl.size
    clear ho
    by_cases hlt : m < c.size
    · have HT := Lib.hid (digs_take hlt)
      have hn0 := PlainAid.bt_nonneg c m
      have hn1 := PlainAid.bt_le c m
      by_cases h1 : PlainAid.bt c m < 49
      · have e0 := Lib.hid (valid_bad hlt (dg_low h1))
        go_wp2
        go_ret2
        rw [plR_f e0.out, e0.out]
        exact ⟨none, 0, rfl, Owned.nil intE_len _ _ _, hbl⟩
      by_cases h2 : 56 < PlainAid.bt c m
      · have e0 := Lib.hid (valid_bad hlt (dg_high h2))
        go_wp2
        go_ret2
        rw [plR_f e0.out, e0.out]
        exact ⟨none, 0, rfl, Owned.nil intE_len _ _ _, hbl⟩
      have hw2 := wrap_dg c m
      have e1 := Lib.hid (dg_mid h1 h2)
      have hdg : PlainAid.bt c m - 48 = dg c m := rfl
      go_wp2_with (first | (at_builtin; go_must ((refine wpList_append_rec Tryz.elInt rfl (.tmp 22) (.tmp 28) rfl rfl (HO.out.alloc _) (dg c m) rfl (Box.at_ _ [.int .i64 (dg c m)] _ ?_) (intE_one _) ?_ (by decide) ?_ ?_; (focus (first | omega | (simp only [World.size_alloc]; done) | (simp only [World.size_alloc]; omega) | (simp; done) | (simp; omega))); (focus (first | omega | (simp only [World.size_alloc]; done) | (simp only [World.size_alloc]; omega) | (simp; done) | (simp; omega))); (focus (first | omega | (simp only [World.size_alloc]; done) | (simp only [World.size_alloc]; omega) | (simp; done) | (simp; omega))); intro A2 c2 w2 ho2 hg2 hb2))))
      go_roundw
      case rel =>
        exact ⟨m + 1, A2, m + 1, c2, by omega, by go_num, by go_num, rfl, Lib.hid (fun j hj => by rcases Nat.lt_succ_iff_lt_or_eq.1 hj with h | rfl; exact HK.out j h; exact e1.out), by rw [HT.out]; exact ho2, (hbl.alloc hsz _).trans hb2⟩
      case measure => simp [intOf]; omega
    · obtain rfl : m = c.size := by omega
      have e0 := Lib.hid (valid_good (fun j hj => HK.out j hj))
      have e1 := Lib.hid (show plR c = (digs c).take c.size by rw [plR_t e0.out, List.take_of_length_le (by rw [digs_len]; omega)])
      have hl := HO.out.len
      rw [← e1.out] at hl
      go_wp2
      go_ret2
      rw [e0.out, hl]
      refine ⟨_, _, rfl, ?_, hbl⟩
      rw [e1.out]; exact HO.out
theorem arePl_0 {n : Int} {l : List Int} (h : ¬ 0 < l.length) : arePl n l = false := by simp [arePl, h]
theorem arePl_n {n : Int} {l : List Int} (h : ((l.length : Int) == n) = true) : arePl n l = false := by simp [arePl, h]
theorem arePl_first {n x : Int} {l : List Int} (hx : l[0]? = some x) (h : (x % 2 == 0) = true) : arePl n l = false := by simp [arePl, List.getD, hx, h]
theorem arePl_par {n y : Int} {l : List Int} (hy : l[l.length - 1]? = some y) (h : (y % 2 == n % 2) = false) : arePl n l = false := by simp [arePl, List.getD, hy, h]
theorem arePl_big {n y : Int} {l : List Int} (hy : l[l.length - 1]? = some y) (h : n < y) : arePl n l = false := by
  have : decide (y ≤ n) = false := by simp; omega
  simp [arePl, List.getD, hy, this]
theorem arePl_adj {n x y : Int} {l : List Int} (h0 : 0 < l.length) (hn : ((l.length : Int) == n) = false) (hx : l[0]? = some x) (hx1 : (x % 2 == 0) = false) (hy : l[l.length - 1]? = some y) (hy1 : (y % 2 == n % 2) = true) (hy2 : ¬ n < y) :
    arePl n l = adj x (l.drop 1) := by
  have : decide (y ≤ n) = true := by simp; omega
  simp only [arePl, List.getD, hx, hy, Option.getD_some, h0, hn, hx1, hy1, this, decide_true, Bool.not_false, Bool.true_and]
set_option maxRecDepth 100000 in
theorem impl_arePlaces {A : Option Addr} {N c : Nat} {l : List Int} {n : Int} {w : World} (hN : l.length = N) (h : Ints w A l) (hz : N ≤ 16777216) (hn : 3 ≤ n ∧ n ≤ 8) (ha : ∀ x ∈ l, 1 ≤ x ∧ x ≤ 8) :
    Calls Tryz.prog 99 #[.int .i64 n, .slice A N c] w fun e w' => e = .returned (.bool (arePl n l)) ∧ Below w.heap.size w w' := by
  subst hN
  by_cases h0 : 0 < l.length
  · obtain ⟨b, o, x, rfl, hbb, hx, hc⟩ := h.at_int h0
    obtain ⟨b', o', y, hA, hbb', hy, hc'⟩ := h.at_int (k := l.length - 1) (by omega)
    injection hA with hA
    injection hA with e1 e2
    subst e1 e2
    have hx8 := ha x (List.mem_of_getElem? hx)
    have hy8 := ha y (List.mem_of_getElem? hy)
    simp only [Nat.add_zero] at hc
    have hz0 : ((l.length : Int) == 0) = false := beq_eq_false_iff_ne.2 (by omega)
    have hpred : ((l.length : Int) - 1) = ((l.length - 1 : Nat) : Int) := by omega
    rcases h1 : ((l.length : Int) == n)
    · rcases h2 : (x % 2 == 0)
      · rcases h3 : (y % 2 == n % 2)
        · have e0 := Lib.hid (arePl_par (n := n) hy h3)
          have h3' : (y % 2 != n % 2) = true := by rw [bne, h3]; rfl
          clear hx hy h
          go_in
          go_wp2
          go_ret
          exact ⟨ret_bool e0.out.symm, Below.refl _ _⟩
        · have h3' : (y % 2 != n % 2) = false := by rw [bne, h3]; rfl
          by_cases h4 : n < y
          · have e0 := Lib.hid (arePl_big (n := n) hy h4)
            clear hx hy h
            go_in
            go_wp2
            go_ret
            exact ⟨ret_bool e0.out.symm, Below.refl _ _⟩
          · have e0 := Lib.hid (arePl_adj h0 h1 hx h2 hy h3 h4)
            have HX := Lib.hid hx
            clear hx hy
            go_in
            go_wp2
            go_loopw [5] (fun i wr => ∃ (k : Nat) (q : Int), 0 < k ∧ k ≤ l.length ∧ i = .int .i64 k ∧ Hid (l[k - 1]? = some q ∧ arePl n l = adj q (l.drop k)) ∧ Below w.heap.size w wr) (fun i _ => l.length - (intOf i).toNat)
            case atStart => exact ⟨1, x, by omega, by omega, rfl, Lib.hid ⟨HX.out, e0.out⟩, Below.refl _ _⟩
            case round =>
              obtain ⟨k, q, hk0, hk, rfl, HK, hb⟩ := hrel
              by_cases hlt : k < l.length
              · obtain ⟨b3, o3, y3, hA3, hbb3, hy3, hc3⟩ := (h.below hb (Nat.le_refl _)).at_int hlt
                obtain ⟨b4, o4, y4, hA4, hbb4, hy4, hc4⟩ := (h.below hb (Nat.le_refl _)).at_int (k := k - 1) (by omega)
                injection hA3 with hA3
                injection hA3 with e3 e4
                injection hA4 with hA4
                injection hA4 with e5 e6
                subst e3 e4 e5 e6
                rw [HK.out.1] at hy4
                injection hy4 with hy4
                subst hy4
                have HD := Lib.hid (show l.drop k = y3 :: l.drop (k + 1) by rw [List.drop_eq_getElem_cons hlt]; congr 1; rw [List.getElem?_eq_getElem hlt] at hy3; injection hy3)
                have HY := Lib.hid hy3
                have hq8 := ha q (List.mem_of_getElem? HK.out.1)
                have hy38 := ha y3 (List.mem_of_getElem? hy3)
                clear hy3 hpred hz0 h1 h2 h3 h3' h4 hx8 hy8 hc hc' h
                have hwk : IntKind.i64.wrap ((k : Int) - 1) = ((k - 1 : Nat) : Int) := by
                  rw [PlainAid.i64_is]; unfold wrap64; omega
                have hlt1 : k - 1 < l.length := by omega
                by_cases h5 : q < y3
                · have hmod : (IntKind.i64.wrap (y3 - q)).tmod 2 = (y3 - q) % 2 := by
                    rw [PlainAid.i64_is, show wrap64 (y3 - q) = y3 - q by unfold wrap64; omega]
                    exact Int.tmod_eq_emod_of_nonneg (by omega)
                  rcases h6 : ((y3 - q) % 2 == 0)
                  · have e1 := Lib.hid (show arePl n l = adj y3 (l.drop (k + 1)) by rw [HK.out.2, HD.out, adj, h6, decide_eq_true h5]; rfl)
                    go_wp2
                    go_quiet (fail)
                    go_wp2
                    go_roundw
                    case rel => exact ⟨k + 1, y3, by omega, by omega, by go_num, Lib.hid ⟨by rw [Nat.add_sub_cancel]; exact HY.out, e1.out⟩, by (repeat' (first | (with_reducible exact Below.refl _ _) | (with_reducible assumption) | (with_reducible refine below_drewN ?_ _) | (with_reducible refine Below.drew ?_) | (with_reducible refine below_alloc ?_ _) | (with_reducible refine Below.alloc ?_ ?_ _) | (with_reducible refine Below.setCell ?_ ?_ _) | (with_reducible refine below_go ?_ (by with_reducible assumption)) | (with_reducible refine below_then (by with_reducible assumption) ?_ ?_) | go_size))⟩
                    case measure => simp [intOf]; omega
                  · have e1 := Lib.hid (show arePl n l = false by rw [HK.out.2, HD.out, adj, h6, decide_eq_true h5]; rfl)
                    go_wp2
                    go_quiet (fail)
                    go_wp2
                    go_ret
                    exact ⟨ret_bool e1.out.symm, by (repeat' (first | (with_reducible exact Below.refl _ _) | (with_reducible assumption) | (with_reducible refine below_drewN ?_ _) | (with_reducible refine Below.drew ?_) | (with_reducible refine below_alloc ?_ _) | (with_reducible refine Below.alloc ?_ ?_ _) | (with_reducible refine Below.setCell ?_ ?_ _) | (with_reducible refine below_go ?_ (by with_reducible assumption)) | (with_reducible refine below_then (by with_reducible assumption) ?_ ?_) | go_size))⟩
                · have e1 := Lib.hid (show arePl n l = false by rw [HK.out.2, HD.out, adj, decide_eq_false h5]; rfl)
                  go_wp2
                  go_quiet (fail)
                  go_wp2
                  go_ret
                  exact ⟨ret_bool e1.out.symm, by (repeat' (first | (with_reducible exact Below.refl _ _) | (with_reducible assumption) | (with_reducible refine below_drewN ?_ _) | (with_reducible refine Below.drew ?_) | (with_reducible refine below_alloc ?_ _) | (with_reducible refine Below.alloc ?_ ?_ _) | (with_reducible refine Below.setCell ?_ ?_ _) | (with_reducible refine below_go ?_ (by with_reducible assumption)) | (with_reducible refine below_then (by with_reducible assumption) ?_ ?_) | go_size))⟩
              · obtain rfl : k = l.length := by omega
                have e1 := Lib.hid (show arePl n l = true by rw [HK.out.2, List.drop_eq_nil_of_le (Nat.le_refl _)]; rfl)
                go_wp2
                go_ret
                exact ⟨ret_bool e1.out.symm, hb⟩
      · have e0 := Lib.hid (arePl_first (n := n) hx h2)
        clear hx hy h
        go_in
        go_wp2
        go_ret
        exact ⟨ret_bool e0.out.symm, Below.refl _ _⟩
    · have e0 := Lib.hid (arePl_n h1)
      clear hx hy h
      go_in
      go_wp2
      go_ret
      exact ⟨ret_bool e0.out.symm, Below.refl _ _⟩
  · have e0 := Lib.hid (arePl_0 (n := n) h0)
    have h1 : l.length = 0 := by omega
    rw [h1]
    clear h h0 h1
    go_in
    go_wp2
    go_ret
    exact ⟨ret_bool e0.out.symm, Below.refl _ _⟩
set_option maxRecDepth 100000 in
theorem impl_GoodChange {c : ByteArray} {n : Int} {w : World} (hz : c.size ≤ 16777216) :
    Calls Tryz.prog 85 #[.int .i64 n, .string c] w fun e w' => e = .returned (.bool (goodChange n c)) ∧ Below w.heap.size w w' := by
  rcases h1 : inB n 3 8
  · have e0 := Lib.hid (goodChange_stage (c := c) h1)
    go_in
    go_wp2_with (first | (go_at_call 97; refine (impl_isStage _ _).mono ?_; rintro e w' ⟨rfl, rfl⟩))
    go_ret
    exact ⟨ret_bool e0.out.symm, Below.refl _ _⟩
  have hn3 := inB_t h1
  rcases h6 : isDash c
  · have e0 := Lib.hid (good_impl hn3 h6)
    have h7 : (c.toList == [45]) = false := h6
    rcases hv : validD c
    · have e1 := Lib.hid (show goodChange n c = false by rw [e0.out, hv]; rfl)
      go_in
      go_wp2_with (first | (go_at_call 97; refine (impl_isStage _ _).mono ?_; rintro e w' ⟨rfl, rfl⟩) | (go_at_call 98; refine (impl_places hz).mono ?_; rintro e w1 ⟨A1, c1, rfl, ho1, hb1⟩; have hz1 : (plR c).length ≤ 16777216 := by (rw [plR_f hv]; decide)))
      go_ret
      exact ⟨ret_bool e1.out.symm, hb1⟩
    · have hva := valid_at hv
      have hpl := plR_t hv
      have hz1 : (plR c).length ≤ 16777216 := by rw [hpl, digs_len]; exact hz
      rw [← hpl] at hva
      have e1 := Lib.hid (show goodChange n c = arePl n (plR c) by rw [e0.out, hv, hpl]; rfl)
      clear hpl
      go_in
      go_wp2_with (first | (go_at_call 97; refine (impl_isStage _ _).mono ?_; rintro e w' ⟨rfl, rfl⟩) | (go_at_call 98; refine (impl_places hz).mono ?_; rintro e w1 ⟨A1, c1, rfl, ho1, hb1⟩) | (go_at_call 99; refine (impl_arePlaces rfl ho1.recs hz1 hn3 hva).mono ?_; rintro e w2 ⟨rfl, hb2⟩))
      go_ret
      exact ⟨ret_bool e1.out.symm, below_go hb1 hb2⟩
  · have e0 := Lib.hid (goodChange_dash h1 (dash_size hn3.1 h6) h6)
    have h7 : (c.toList == [45]) = true := h6
    go_in
    go_wp2_with (first | (go_at_call 97; refine (impl_isStage _ _).mono ?_; rintro e w' ⟨rfl, rfl⟩))
    go_ret
    exact ⟨ret_bool e0.out.symm, Below.refl _ _⟩
end Go.Proofs.YtoheahbkopbmhaaGreat
/- The walks through rows: good rows, even rows. -/
namespace Go.Proofs.YtoheahbkopbmhaaGreat
set_option linter.unusedVariables false
set_option linter.unusedSimpArgs false
open Go.ChangeShapes Go.WideShapes Go.ChangeAt Go.RowKit Go.Deep
end Go.Proofs.YtoheahbkopbmhaaGreat
/- GoodRow of the program: the bits. -/
namespace Go.Proofs.YtoheahbkopbmhaaGreat
set_option linter.unusedVariables false
set_option linter.unusedSimpArgs false
open Go.ChangeShapes Go.WideShapes Go.ChangeAt Go.RowKit Go.Deep
end Go.Proofs.YtoheahbkopbmhaaGreat
/- The walks through lists of rows: which are good, their signs. -/
namespace Go.Proofs.YtoheahbkopbmhaaGreat
set_option linter.unusedVariables false
set_option linter.unusedSimpArgs false
open Go.ChangeShapes Go.WideShapes Go.ChangeAt Go.RowKit Go.Deep
end Go.Proofs.YtoheahbkopbmhaaGreat
/- The walks through good methods and good calls, both sides. -/
namespace Go.Proofs.YtoheahbkopbmhaaGreat
set_option linter.unusedVariables false
set_option linter.unusedSimpArgs false
open Go.ChangeShapes Go.WideShapes Go.ChangeAt Go.RowKit Go.Deep
theorem lowB_eq (s : ByteArray) (k : Nat) : lowB s k = (!decide (PlainAid.bt s k < 97) && !decide (122 < PlainAid.bt s k)) := by
  rw [lowB, inB, Bool.eq_iff_iff]
  simp
set_option maxRecDepth 100000 in
theorem impl_isWord {s : ByteArray} {w : World} (hz : s.size ≤ 16777216) :
    Calls Tryz.prog 95 #[.string s] w fun e w' => e = .returned (.bool (nameOk s)) ∧ w = w' := by
  have gb := PlainAid.get_bt s
  have HN : Hid (nameOk s = ((List.range s.size).all (lowB s) && inB s.size 1 10)) := Lib.hid rfl
  go_in
  go_wp2
  go_loopw [6] (fun i wr => ∃ k : Nat, k ≤ s.size ∧ i = .int .i64 k ∧ Hid (∀ j, j < k → lowB s j = true) ∧ w = wr) (fun i _ => s.size - (intOf i).toNat)
  case atStart => exact ⟨0, Nat.zero_le _, rfl, Lib.hid (fun j hj => absurd hj (by omega)), rfl⟩
  case round =>
    obtain ⟨k, hk, rfl, HK, rfl⟩ := hrel
    by_cases hlt : k < s.size
    · by_cases h1 : PlainAid.bt s k < 97
      · have e1 := Lib.hid (show nameOk s = false by rw [HN.out]; exact all_bad hlt (by rw [lowB_eq, decide_eq_true h1]; rfl) _)
        go_wp2
        go_ret
        rw [e1.out]
        exact ⟨rfl, rfl⟩
      · by_cases h2 : 122 < PlainAid.bt s k
        · have e1 := Lib.hid (show nameOk s = false by rw [HN.out]; exact all_bad hlt (by rw [lowB_eq, decide_eq_true h2, decide_eq_false h1]; rfl) _)
          go_wp2
          go_ret
          rw [e1.out]
          exact ⟨rfl, rfl⟩
        · have e1 := Lib.hid (show lowB s k = true by rw [lowB_eq, decide_eq_false h2, decide_eq_false h1]; rfl)
          go_wp2
          go_roundw
          case rel => exact ⟨k + 1, by omega, by go_num, Lib.hid (upto_succ HK.out e1.out), trivial⟩
          case measure => simp [intOf]; omega
    · obtain rfl : k = s.size := by omega
      have e1 := Lib.hid (show nameOk s = inB s.size 1 10 by rw [HN.out]; exact all_good (fun j hj => HK.out j hj) _)
      by_cases h1 : 1 ≤ s.size
      · go_wp2
        go_ret
        refine ⟨ret_bool ?_, rfl⟩
        rw [e1.out, inB]
        exact decide_eq_decide.2 (by omega)
      · have hI : ¬ (1 : Int) ≤ (s.size : Int) := by omega
        go_wp2
        go_ret
        refine ⟨ret_bool ?_, rfl⟩
        rw [e1.out, inB, decide_eq_false (by omega)]
set_option maxRecDepth 100000 in
theorem spec_l4Name {s : ByteArray} {w : World} (hz : s.size ≤ 16777216) :
    Calls Tryz.prog 57 #[.string s] w fun e w' => e = .returned (.bool (nameOk s)) ∧ w = w' := by
  have gb := PlainAid.get_bt s
  have HN : Hid (nameOk s = ((List.range s.size).all (lowB s) && inB s.size 1 10)) := Lib.hid rfl
  go_in
  go_wp2
  go_loopw [3] (fun i wr => ∃ k : Nat, k ≤ s.size ∧ i = .int .i64 k ∧ Hid (∀ j, j < k → lowB s j = true) ∧ w = wr) (fun i _ => s.size - (intOf i).toNat)
  case atStart => exact ⟨0, Nat.zero_le _, rfl, Lib.hid (fun j hj => absurd hj (by omega)), rfl⟩
  case round =>
    obtain ⟨k, hk, rfl, HK, rfl⟩ := hrel
    by_cases hlt : k < s.size
    · by_cases h1 : PlainAid.bt s k < 97
      · have e1 := Lib.hid (show nameOk s = false by rw [HN.out]; exact all_bad hlt (by rw [lowB_eq, decide_eq_true h1]; rfl) _)
        go_wp2
        go_ret
        rw [e1.out]
        exact ⟨rfl, rfl⟩
      · by_cases h2 : 122 < PlainAid.bt s k
        · have e1 := Lib.hid (show nameOk s = false by rw [HN.out]; exact all_bad hlt (by rw [lowB_eq, decide_eq_true h2, decide_eq_false h1]; rfl) _)
          go_wp2
          go_ret
          rw [e1.out]
          exact ⟨rfl, rfl⟩
        · have e1 := Lib.hid (show lowB s k = true by rw [lowB_eq, decide_eq_false h2, decide_eq_false h1]; rfl)
          go_wp2
          go_roundw
          case rel => exact ⟨k + 1, by omega, by go_num, Lib.hid (upto_succ HK.out e1.out), trivial⟩
          case measure => simp [intOf]; omega
    · obtain rfl : k = s.size := by omega
      have e1 := Lib.hid (show nameOk s = inB s.size 1 10 by rw [HN.out]; exact all_good (fun j hj => HK.out j hj) _)
      go_wp2_with fail
      refine (spec_l1In _ _ _ _).mono ?_; rintro e w' ⟨rfl, rfl⟩
      go_wp2
      go_ret
      exact ⟨ret_bool e1.out.symm, rfl⟩
set_option maxRecDepth 100000 in
theorem impl_areChanges {A : Option Addr} {N c : Nat} {st : Int} {l : List ByteArray} {w : World} (hN : l.length = N) (h : Strs w A l) (hz : N ≤ 1048576) (hs : ∀ s ∈ l, s.size ≤ 16777216) (hst : I64 st) :
    Calls Tryz.prog 96 #[.int .i64 st, .slice A N c] w fun e w' => e = .returned (.bool (inB l.length 1 40 && allCh st l)) ∧ Below w.heap.size w w' := by
  subst hN
  have HS := Lib.hid hs
  have HQ : Hid (allCh st l = (List.range l.length).all (okCh st l)) := Lib.hid rfl
  clear hs
  rcases hl : inB l.length 1 40
  · by_cases h1 : l.length < 1
    · have hI : (l.length : Int) < 1 := by omega
      go_in
      go_wp2
      go_ret
      exact ⟨rfl, Below.refl _ _⟩
    · have hI : ¬ (l.length : Int) < 1 := by omega
      have hJ : (40 : Int) < (l.length : Int) := by
        rw [inB, decide_eq_false_iff_not] at hl; omega
      go_in
      go_wp2
      go_ret
      exact ⟨rfl, Below.refl _ _⟩
  · have hb := inB_t hl
    have hI : ¬ (l.length : Int) < 1 := by omega
    have hJ : ¬ (40 : Int) < (l.length : Int) := by omega
    go_in
    go_wp2
    go_loopw [17] (fun i wr => ∃ k : Nat, k ≤ l.length ∧ i = .int .i64 k ∧ Hid (∀ j, j < k → okCh st l j = true) ∧ Below w.heap.size w wr) (fun i _ => l.length - (intOf i).toNat)
    case atStart => exact ⟨0, Nat.zero_le _, rfl, Lib.hid (fun j hj => absurd hj (by omega)), Below.refl _ _⟩
    case round =>
      obtain ⟨k, hk, rfl, HK, hb⟩ := hrel
      by_cases hlt : k < l.length
      · obtain ⟨b1, o1, y, rfl, _, hy, hcy⟩ := (h.below hb (Nat.le_refl _)).at_str hlt
        have hys := HS.out y (List.mem_of_getElem? hy)
        have E := Lib.hid (okCh_at (n := st) hy)
        clear hy h
        go_wp2_with fail
        refine (impl_GoodChange hys).mono ?_; rintro e w1 ⟨rfl, hb1⟩
        have hbt := below_go hb hb1
        rcases hg : goodChange st y
        · have e1 := Lib.hid (show allCh st l = false by rw [HQ.out]; exact all_no hlt (by rw [E.out, hg]))
          go_wp2
          go_ret
          rw [e1.out]
          exact ⟨rfl, hbt⟩
        · have e1 := Lib.hid (show okCh st l k = true by rw [E.out, hg])
          go_wp2
          go_roundw
          case rel => exact ⟨k + 1, by omega, by go_num, Lib.hid (upto_succ HK.out e1.out), hbt⟩
          case measure => simp [intOf]; omega
      · obtain rfl : k = l.length := by omega
        have e1 := Lib.hid (show allCh st l = true by rw [HQ.out]; exact all_yes (fun j hj => HK.out j hj))
        go_wp2
        go_ret
        rw [e1.out]
        exact ⟨rfl, hb⟩
theorem impl_GoodMethod {A : Option Addr} {n c : Nat} {nm : ByteArray} {st : Int} {l : List ByteArray} {w : World} (hn : l.length = n) (h : Strs w A l) (hz : n ≤ 1048576) (hs : ∀ s ∈ l, s.size ≤ 16777216) (hnm : nm.size ≤ 16777216) (hst : I64 st) :
    Calls Tryz.prog 84 #[.agg #[.string nm, .int .i64 st, .slice A n c]] w fun e w' => e = .returned (.bool (goodM nm st l)) ∧ Below w.heap.size w w' := by
  subst hn
  have HQ : Hid (goodM nm st l = (nameOk nm && (inB st 3 8 && (inB l.length 1 40 && allCh st l)))) := Lib.hid rfl
  have b0 : Below w.heap.size w (w.alloc (.cells ⟨[.string nm, .int .i64 st, .slice A l.length c]⟩ 34)) := by (repeat' (first | (with_reducible exact Below.refl _ _) | (with_reducible assumption) | (with_reducible refine below_drewN ?_ _) | (with_reducible refine Below.drew ?_) | (with_reducible refine below_alloc ?_ _) | (with_reducible refine Below.alloc ?_ ?_ _) | (with_reducible refine Below.setCell ?_ ?_ _) | (with_reducible refine below_go ?_ (by with_reducible assumption)) | (with_reducible refine below_then (by with_reducible assumption) ?_ ?_) | go_size))
  rcases hN : nameOk nm
  · have e1 := Lib.hid (show goodM nm st l = false by rw [HQ.out, hN]; rfl)
    go_in
    go_wp2_with fail
    refine (impl_isWord hnm).mono ?_; rw [hN]; rintro e w' ⟨rfl, rfl⟩
    go_wp2
    go_ret
    rw [e1.out]
    exact ⟨rfl, b0⟩
  · have e1 := Lib.hid (show goodM nm st l = (inB l.length 1 40 && allCh st l) by
      rw [HQ.out, hN]
      rcases hI : inB st 3 8
      · rcases hl : inB l.length 1 40
        · rfl
        · have := inB_t hl
          have : allCh st l = false := all_no (k := 0) (by omega) (by
            obtain ⟨x, hx⟩ := some_of_lt (l := l) (k := 0) (by omega)
            rw [okCh_at hx]; exact goodChange_stage hI)
          rw [this]; rfl
      · rfl)
    go_in
    go_wp2_with fail
    refine (impl_isWord hnm).mono ?_; rw [hN]; rintro e w' ⟨rfl, rfl⟩
    go_wp2_with fail
    refine (impl_areChanges rfl (h.up b0) hz hs hst).mono ?_; rintro e w1 ⟨rfl, hb1⟩
    go_wp2
    go_ret
    rw [e1.out]
    exact ⟨rfl, below_go b0 hb1⟩
theorem goodM_tail {nm : ByteArray} {st : Int} {l : List ByteArray} (ha : allCh st l = true) : goodM nm st l = (nameOk nm && (inB st 3 8 && inB l.length 1 40)) := by
  rw [goodM, ha, Bool.and_true]
theorem goodM_bad {nm : ByteArray} {st : Int} {l : List ByteArray} (ha : allCh st l = false) : goodM nm st l = false := by
  rw [goodM, ha, Bool.and_false, Bool.and_false, Bool.and_false]
set_option maxHeartbeats 1000000 in
set_option maxRecDepth 100000 in
theorem spec_l4Good {A : Option Addr} {n c : Nat} {nm : ByteArray} {st : Int} {l : List ByteArray} {w : World} (hn : l.length = n) (h : Strs w A l) (hz : n ≤ 1048576) (hs : ∀ s ∈ l, s.size ≤ 16777216) (hnm : nm.size ≤ 16777216) (hst : I64 st) :
    Calls Tryz.prog 37 #[.agg #[.string nm, .int .i64 st, .slice A n c]] w fun e w' => e = .returned (.bool (goodM nm st l)) ∧ Below w.heap.size w w' := by
  subst hn
  have HS := Lib.hid hs
  have HQ : Hid (allCh st l = (List.range l.length).all (okCh st l)) := Lib.hid rfl
  have b0 : Below w.heap.size w (w.alloc (.cells ⟨[.string nm, .int .i64 st, .slice A l.length c]⟩ 34)) := by (repeat' (first | (with_reducible exact Below.refl _ _) | (with_reducible assumption) | (with_reducible refine below_drewN ?_ _) | (with_reducible refine Below.drew ?_) | (with_reducible refine below_alloc ?_ _) | (with_reducible refine Below.alloc ?_ ?_ _) | (with_reducible refine Below.setCell ?_ ?_ _) | (with_reducible refine below_go ?_ (by with_reducible assumption)) | (with_reducible refine below_then (by with_reducible assumption) ?_ ?_) | go_size))
  have K0 := Blk.at_ w 34 [.string nm, .int .i64 st, .slice A l.length c] (b := w.heap.size) rfl
  have h := h.up b0
  clear hs
  go_in
  go_wp2
  obtain ⟨w0, hw0⟩ : ∃ u, u = (w.alloc (.cells #[.string nm, .int .i64 st, .slice A l.length c] 34)) := ⟨_, rfl⟩
  rw [← hw0] at b0 K0 h ⊢
  clear hw0
  have k0 := K0.cell 0; have k1 := K0.cell 1; have k2 := K0.cell 2
  simp only [List.getElem?_cons_zero, List.getElem?_cons_succ] at k0 k1 k2
  go_loopw [8] (fun i wr => ∃ k : Nat, k ≤ l.length ∧ i = .int .i64 k ∧ Hid (∀ j, j < k → okCh st l j = true) ∧ w0 = wr) (fun i _ => l.length - (intOf i).toNat)
  case atStart => exact ⟨0, Nat.zero_le _, rfl, Lib.hid (fun j hj => absurd hj (by omega)), rfl⟩
  case round =>
    obtain ⟨k, hk, rfl, HK, rfl⟩ := hrel
    by_cases hlt : k < l.length
    · obtain ⟨b1, o1, y, rfl, _, hy, hcy⟩ := h.at_str hlt
      have hys := HS.out y (List.mem_of_getElem? hy)
      have E := Lib.hid (okCh_at (n := st) hy)
      clear hy h
      go_wp2_with fail
      refine (spec_l2Change hys hst).mono ?_; rintro e w' ⟨rfl, rfl⟩
      rcases hg : goodChange st y
      · have e1 := Lib.hid (show goodM nm st l = false from goodM_bad (by rw [HQ.out]; exact all_no hlt (by rw [E.out, hg])))
        go_wp2
        go_ret
        rw [e1.out]
        exact ⟨rfl, b0⟩
      · have e1 := Lib.hid (show okCh st l k = true by rw [E.out, hg])
        go_wp2
        go_roundw
        case rel => exact ⟨k + 1, by omega, by go_num, Lib.hid (upto_succ HK.out e1.out), trivial⟩
        case measure => simp [intOf]; omega
    · obtain rfl : k = l.length := by omega
      have e1 := Lib.hid (show goodM nm st l = (nameOk nm && (inB st 3 8 && inB l.length 1 40)) from goodM_tail (by rw [HQ.out]; exact all_yes (fun j hj => HK.out j hj)))
      go_wp2_with fail
      refine (spec_l4Name hnm).mono ?_; rintro e w' ⟨rfl, rfl⟩
      rcases h1 : nameOk nm
      · have e2 := Lib.hid (show goodM nm st l = false by rw [e1.out, h1]; rfl)
        go_wp2
        go_ret
        rw [e2.out]
        exact ⟨rfl, b0⟩
      · go_wp2_with fail
        refine (spec_l1In _ _ _ _).mono ?_; rintro e w' ⟨rfl, rfl⟩
        rcases h2 : inB st 3 8
        · have e2 := Lib.hid (show goodM nm st l = false by rw [e1.out, h1, h2]; rfl)
          go_wp2
          go_ret
          rw [e2.out]
          exact ⟨rfl, b0⟩
        · have e2 := Lib.hid (show goodM nm st l = inB l.length 1 40 by rw [e1.out, h1, h2]; rfl)
          go_wp2_with fail
          refine (spec_l1In _ _ _ _).mono ?_; rintro e w' ⟨rfl, rfl⟩
          go_wp2
          go_ret
          rw [e2.out]
          exact ⟨rfl, b0⟩
set_option maxHeartbeats 1000000 in
theorem impl_GoodCalls {A : Option Addr} {n c : Nat} {nm : ByteArray} {st : Int} {l : List ByteArray} {kb ks : ByteArray} {w : World} (hn : l.length = n) (h : Strs w A l) (hz : n ≤ 1048576) (hs : ∀ s ∈ l, s.size ≤ 16777216) (hnm : nm.size ≤ 16777216) (hst : I64 st) (hkb : kb.size ≤ 16777216) (hks : ks.size ≤ 16777216) :
    Calls Tryz.prog 65 #[.agg #[.string nm, .int .i64 st, .slice A n c], .agg #[.string kb, .string ks]] w fun e w' => e = .returned (.bool (goodK nm st l kb ks)) ∧ Below w.heap.size w w' := by
  have HQ : Hid (goodK nm st l kb ks = (goodM nm st l && (goodChange st kb && goodChange st ks))) := Lib.hid rfl
  have b0 : Below w.heap.size w ((w.alloc (.cells ⟨[.string nm, .int .i64 st, .slice A n c]⟩ 34)).alloc (.cells ⟨[.string kb, .string ks]⟩ 36)) := by (repeat' (first | (with_reducible exact Below.refl _ _) | (with_reducible assumption) | (with_reducible refine below_drewN ?_ _) | (with_reducible refine Below.drew ?_) | (with_reducible refine below_alloc ?_ _) | (with_reducible refine Below.alloc ?_ ?_ _) | (with_reducible refine Below.setCell ?_ ?_ _) | (with_reducible refine below_go ?_ (by with_reducible assumption)) | (with_reducible refine below_then (by with_reducible assumption) ?_ ?_) | go_size))
  have K0 := (Blk.at_ w 34 [.string nm, .int .i64 st, .slice A n c] (b := w.heap.size) rfl).alloc (.cells ⟨[.string kb, .string ks]⟩ 36)
  have K1 := Blk.at_ (w.alloc (.cells ⟨[.string nm, .int .i64 st, .slice A n c]⟩ 34)) 36 [.string kb, .string ks] (b := w.heap.size + 1) (by simp)
  go_in
  go_wp2_with fail
  obtain ⟨w0, hw0⟩ : ∃ u, u = ((w.alloc (.cells #[.string nm, .int .i64 st, .slice A n c] 34)).alloc (.cells #[.string kb, .string ks] 36)) := ⟨_, rfl⟩
  rw [← hw0] at b0 K0 K1 ⊢
  clear hw0
  refine (impl_GoodMethod hn (h.up b0) hz hs hnm hst).mono ?_; rintro e w1 ⟨rfl, hb1⟩
  have hB1 := below_go b0 hb1
  rcases h1 : goodM nm st l
  · have e1 := Lib.hid (show goodK nm st l kb ks = false by rw [HQ.out, h1]; rfl)
    go_wp2
    go_ret
    rw [e1.out]
    exact ⟨rfl, hB1⟩
  have K0 := K0.up hb1; have K1 := K1.up hb1
  have k1 := K0.cell 1; have q0 := K1.cell 0
  simp only [List.getElem?_cons_zero, List.getElem?_cons_succ] at k1 q0
  go_wp2_with fail
  refine (impl_GoodChange hkb).mono ?_; rintro e w2 ⟨rfl, hb2⟩
  have hB2 := below_go hB1 hb2
  rcases h2 : goodChange st kb
  · have e1 := Lib.hid (show goodK nm st l kb ks = false by rw [HQ.out, h1, h2]; rfl)
    go_wp2
    go_ret
    rw [e1.out]
    exact ⟨rfl, hB2⟩
  have K0 := K0.up hb2; have K1 := K1.up hb2
  have k2 := K0.cell 1; have q1 := K1.cell 1
  simp only [List.getElem?_cons_zero, List.getElem?_cons_succ] at k2 q1
  clear k1 q0
  go_wp2_with fail
  refine (impl_GoodChange hks).mono ?_; rintro e w3 ⟨rfl, hb3⟩
  have e1 := Lib.hid (show goodK nm st l kb ks = goodChange st ks by rw [HQ.out, h1, h2]; rfl)
  go_wp2
  go_ret
  rw [e1.out]
  exact ⟨rfl, below_go hB2 hb3⟩
set_option maxHeartbeats 1000000 in
theorem spec_l8Good {A : Option Addr} {n c : Nat} {nm : ByteArray} {st : Int} {l : List ByteArray} {kb ks : ByteArray} {w : World} (hn : l.length = n) (h : Strs w A l) (hz : n ≤ 1048576) (hs : ∀ s ∈ l, s.size ≤ 16777216) (hnm : nm.size ≤ 16777216) (hst : I64 st) (hkb : kb.size ≤ 16777216) (hks : ks.size ≤ 16777216) :
    Calls Tryz.prog 59 #[.agg #[.string nm, .int .i64 st, .slice A n c], .agg #[.string kb, .string ks]] w fun e w' => e = .returned (.bool (goodK nm st l kb ks)) ∧ Below w.heap.size w w' := by
  have HQ : Hid (goodK nm st l kb ks = (goodM nm st l && (goodChange st kb && goodChange st ks))) := Lib.hid rfl
  have b0 : Below w.heap.size w ((w.alloc (.cells ⟨[.string nm, .int .i64 st, .slice A n c]⟩ 34)).alloc (.cells ⟨[.string kb, .string ks]⟩ 36)) := by (repeat' (first | (with_reducible exact Below.refl _ _) | (with_reducible assumption) | (with_reducible refine below_drewN ?_ _) | (with_reducible refine Below.drew ?_) | (with_reducible refine below_alloc ?_ _) | (with_reducible refine Below.alloc ?_ ?_ _) | (with_reducible refine Below.setCell ?_ ?_ _) | (with_reducible refine below_go ?_ (by with_reducible assumption)) | (with_reducible refine below_then (by with_reducible assumption) ?_ ?_) | go_size))
  have K0 := (Blk.at_ w 34 [.string nm, .int .i64 st, .slice A n c] (b := w.heap.size) rfl).alloc (.cells ⟨[.string kb, .string ks]⟩ 36)
  have K1 := Blk.at_ (w.alloc (.cells ⟨[.string nm, .int .i64 st, .slice A n c]⟩ 34)) 36 [.string kb, .string ks] (b := w.heap.size + 1) (by simp)
  go_in
  go_wp2_with fail
  obtain ⟨w0, hw0⟩ : ∃ u, u = ((w.alloc (.cells #[.string nm, .int .i64 st, .slice A n c] 34)).alloc (.cells #[.string kb, .string ks] 36)) := ⟨_, rfl⟩
  rw [← hw0] at b0 K0 K1 ⊢
  clear hw0
  refine (spec_l4Good hn (h.up b0) hz hs hnm hst).mono ?_; rintro e w1 ⟨rfl, hb1⟩
  have hB1 := below_go b0 hb1
  rcases h1 : goodM nm st l
  · have e1 := Lib.hid (show goodK nm st l kb ks = false by rw [HQ.out, h1]; rfl)
    go_wp2
    go_ret
    rw [e1.out]
    exact ⟨rfl, hB1⟩
  have K0 := K0.up hb1; have K1 := K1.up hb1
  have k1 := K0.cell 1; have q0 := K1.cell 0; have q1 := K1.cell 1
  simp only [List.getElem?_cons_zero, List.getElem?_cons_succ] at k1 q0 q1
  go_wp2_with fail
  refine (spec_l2Change hkb hst).mono ?_; rintro e w' ⟨rfl, rfl⟩
  rcases h2 : goodChange st kb
  · have e1 := Lib.hid (show goodK nm st l kb ks = false by rw [HQ.out, h1, h2]; rfl)
    go_wp2
    go_ret
    rw [e1.out]
    exact ⟨rfl, hB1⟩
  go_wp2_with fail
  refine (spec_l2Change hks hst).mono ?_; rintro e w' ⟨rfl, rfl⟩
  have e1 := Lib.hid (show goodK nm st l kb ks = goodChange st ks by rw [HQ.out, h1, h2]; rfl)
  go_wp2
  go_ret
  rw [e1.out]
  exact ⟨rfl, hB1⟩
theorem spec_GoodCalls {A : Option Addr} {n c : Nat} {nm : ByteArray} {st : Int} {l : List ByteArray} {kb ks : ByteArray} {w : World} (hn : l.length = n) (h : Strs w A l) (hz : n ≤ 1048576) (hs : ∀ s ∈ l, s.size ≤ 16777216) (hnm : nm.size ≤ 16777216) (hst : I64 st) (hkb : kb.size ≤ 16777216) (hks : ks.size ≤ 16777216) :
    Calls Tryz.prog 38 #[.agg #[.string nm, .int .i64 st, .slice A n c], .agg #[.string kb, .string ks]] w fun e w' => e = .returned (.bool (goodK nm st l kb ks)) ∧ Below w.heap.size w w' := by
  have b0 : Below w.heap.size w ((w.alloc (.cells ⟨[.string nm, .int .i64 st, .slice A n c]⟩ 34)).alloc (.cells ⟨[.string kb, .string ks]⟩ 36)) := by (repeat' (first | (with_reducible exact Below.refl _ _) | (with_reducible assumption) | (with_reducible refine below_drewN ?_ _) | (with_reducible refine Below.drew ?_) | (with_reducible refine below_alloc ?_ _) | (with_reducible refine Below.alloc ?_ ?_ _) | (with_reducible refine Below.setCell ?_ ?_ _) | (with_reducible refine below_go ?_ (by with_reducible assumption)) | (with_reducible refine below_then (by with_reducible assumption) ?_ ?_) | go_size))
  go_in
  go_wp2_with fail
  refine (spec_l8Good hn (h.up b0) hz hs hnm hst hkb hks).mono ?_; rintro e w1 ⟨rfl, hb1⟩
  go_wp2
  go_ret
  exact ⟨rfl, below_go b0 hb1⟩
theorem impl_isCall {s : ByteArray} {w : World} :
    Calls Tryz.prog 100 #[.string s] w fun e w' => e = .returned (.bool (isCl s)) ∧ w = w' := by
  have HQ : Hid (isCl s = (isP s || (isB s || isS s))) := Lib.hid rfl
  rcases h1 : isP s <;> rcases h2 : isB s <;> rcases h3 : isS s
  all_goals
    have e1 := HQ.out
    rw [h1, h2, h3] at e1
    have E1 := Lib.hid e1
    have a1 := Lib.hid h1; have a2 := Lib.hid h2; have a3 := Lib.hid h3
    clear e1 h1 h2 h3
    have g1 : (s.toList == [112]) = _ := a1.out
    have g2 : (s.toList == [98]) = _ := a2.out
    have g3 : (s.toList == [115]) = _ := a3.out
    go_in
    go_wp2
    go_ret
    rw [E1.out]
    exact ⟨rfl, rfl⟩
theorem spec_l8Call {s : ByteArray} {w : World} :
    Calls Tryz.prog 81 #[.string s] w fun e w' => e = .returned (.bool (isCl s)) ∧ w = w' := by
  have HQ : Hid (isCl s = (isP s || (isB s || isS s))) := Lib.hid rfl
  rcases h1 : isP s <;> rcases h2 : isB s <;> rcases h3 : isS s
  all_goals
    have e1 := HQ.out
    rw [h1, h2, h3] at e1
    have E1 := Lib.hid e1
    have a1 := Lib.hid h1; have a2 := Lib.hid h2; have a3 := Lib.hid h3
    clear e1 h1 h2 h3
    have g1 : (s.toList == [112]) = _ := a1.out
    have g2 : (s.toList == [98]) = _ := a2.out
    have g3 : (s.toList == [115]) = _ := a3.out
    go_in
    go_wp2
    go_ret
    rw [E1.out]
    exact ⟨rfl, rfl⟩
theorem spec_l8Asked {A : Option Addr} {n c : Nat} {nm : ByteArray} {st : Int} {l : List ByteArray} {kb ks : ByteArray} {s : ByteArray} {w : World} (hn : l.length = n) (h : Strs w A l) (hz : n ≤ 1048576) (hs : ∀ s ∈ l, s.size ≤ 16777216) (hnm : nm.size ≤ 16777216) (hst : I64 st) (hkb : kb.size ≤ 16777216) (hks : ks.size ≤ 16777216) :
    Calls Tryz.prog 61 #[.agg #[.string nm, .int .i64 st, .slice A n c], .agg #[.string kb, .string ks], .string s] w fun e w' => e = .returned (.bool (goodK nm st l kb ks && isCl s)) ∧ Below w.heap.size w w' := by
  have b0 : Below w.heap.size w ((w.alloc (.cells ⟨[.string nm, .int .i64 st, .slice A n c]⟩ 34)).alloc (.cells ⟨[.string kb, .string ks]⟩ 36)) := by (repeat' (first | (with_reducible exact Below.refl _ _) | (with_reducible assumption) | (with_reducible refine below_drewN ?_ _) | (with_reducible refine Below.drew ?_) | (with_reducible refine below_alloc ?_ _) | (with_reducible refine Below.alloc ?_ ?_ _) | (with_reducible refine Below.setCell ?_ ?_ _) | (with_reducible refine below_go ?_ (by with_reducible assumption)) | (with_reducible refine below_then (by with_reducible assumption) ?_ ?_) | go_size))
  go_in
  go_wp2_with fail
  refine (spec_l8Good hn (h.up b0) hz hs hnm hst hkb hks).mono ?_; rintro e w1 ⟨rfl, hb1⟩
  rcases h1 : goodK nm st l kb ks
  · go_wp2
    go_ret
    exact ⟨ret_bool (by rw [h1]; rfl), below_go b0 hb1⟩
  · go_wp2_with fail
    refine spec_l8Call.mono ?_; rintro e w' ⟨rfl, rfl⟩
    go_wp2
    go_ret
    exact ⟨ret_bool (by rw [h1]; rfl), below_go b0 hb1⟩
end Go.Proofs.YtoheahbkopbmhaaGreat
/- The swaps of a change, the program's side; ChangeSign on both sides. -/
namespace Go.Proofs.YtoheahbkopbmhaaGreat
set_option linter.unusedVariables false
set_option linter.unusedSimpArgs false
open Go.ChangeShapes Go.WideShapes Go.ChangeAt Go.RowKit Go.Deep
theorem impl_placesOf {c : ByteArray} {w : World} (hz : c.size ≤ 16777216) (hg : isDash c = true ∨ validD c = true) :
    Calls Tryz.prog 105 #[.string c] w fun e w' => ∃ A' c', e = .returned (.slice A' (plsOf c).length c') ∧
      Owned intE 1 3 w' w.heap.size A' (plsOf c).length c' (plsOf c) ∧ Below w.heap.size w w' := by
  rcases h6 : isDash c
  · have h7 : (c.toList == [45]) = false := h6
    have hv : validD c = true := by rcases hg with h | h; rw [h6] at h; cases h; exact h
    have e0 := Lib.hid (plsOf_digs h6)
    have e1 := Lib.hid (plR_t hv)
    go_in
    go_wp2_with (first | (go_at_call 98; refine (impl_places hz).mono ?_; rintro e w1 ⟨A1, c1, rfl, ho1, hb1⟩))
    go_ret
    rw [e0.out, ← e1.out]
    exact ⟨_, _, rfl, ho1, hb1⟩
  · have h7 : (c.toList == [45]) = true := h6
    have e0 := Lib.hid (plsOf_dash h6)
    go_in
    go_wp2
    go_ret
    rw [e0.out]
    exact ⟨_, _, rfl, Owned.empty intE_len _ _ (by simp), by (repeat' (first | (with_reducible exact Below.refl _ _) | (with_reducible assumption) | (with_reducible refine below_drewN ?_ _) | (with_reducible refine Below.drew ?_) | (with_reducible refine below_alloc ?_ _) | (with_reducible refine Below.alloc ?_ ?_ _) | (with_reducible refine Below.setCell ?_ ?_ _) | (with_reducible refine below_go ?_ (by with_reducible assumption)) | (with_reducible refine below_then (by with_reducible assumption) ?_ ?_) | go_size))⟩
def hasI (l : List Int) (p : Int) : Bool := l.contains p
theorem slices_IndexInt {A : Option Addr} {N c : Nat} {l : List Int} {p : Int} {w : World} (hN : l.length = N) (h : Ints w A l) (hz : N ≤ 16777216) :
    Calls Tryz.prog 107 #[.slice A N c, .int .i64 p] w fun e w' => ∃ r : Int, e = .returned (.int .i64 r) ∧ decide (0 ≤ r) = hasI l p ∧ w = w' := by
  subst hN
  go_in
  go_wp2
  go_loopw [8] (fun i wr => ∃ k : Nat, k ≤ l.length ∧ i = .int .i64 k ∧ Hid (hasI l p = (l.drop k).contains p) ∧ w = wr) (fun i _ => l.length - (intOf i).toNat)
  case atStart => exact ⟨0, Nat.zero_le _, rfl, Lib.hid rfl, rfl⟩
  case round =>
    obtain ⟨k, hk, rfl, HK, rfl⟩ := hrel
    by_cases hlt : k < l.length
    · obtain ⟨b3, o3, y3, rfl, hbb3, hy3, hc3⟩ := h.at_int hlt
      have HD := Lib.hid (show l.drop k = y3 :: l.drop (k + 1) by rw [List.drop_eq_getElem_cons hlt]; congr 1; rw [List.getElem?_eq_getElem hlt] at hy3; injection hy3)
      clear hy3
      rcases he : (p == y3)
      · have e1 := Lib.hid (show hasI l p = (l.drop (k + 1)).contains p by rw [HK.out, HD.out, List.contains_cons, he]; rfl)
        go_wp2
        go_roundw
        case rel => exact ⟨k + 1, by omega, by go_num, e1, trivial⟩
        case measure => simp [intOf]; omega
      · have e1 := Lib.hid (show hasI l p = true by rw [HK.out, HD.out, List.contains_cons, he]; rfl)
        go_wp2
        go_ret
        exact ⟨(k : Int), rfl, by rw [e1.out]; simp, rfl⟩
    · have e1 := Lib.hid (show hasI l p = false by rw [HK.out, List.drop_eq_nil_of_le (by omega)]; rfl)
      go_wp2
      go_ret
      exact ⟨-1, rfl, by rw [e1.out]; rfl, rfl⟩
theorem slices_ContainsInt {A : Option Addr} {N c : Nat} {l : List Int} {p : Int} {w : World} (hN : l.length = N) (h : Ints w A l) (hz : N ≤ 16777216) :
    Calls Tryz.prog 106 #[.slice A N c, .int .i64 p] w fun e w' => e = .returned (.bool (hasI l p)) ∧ w = w' := by
  go_in
  go_wp2_with (first | (go_at_call 107; refine (slices_IndexInt hN h hz).mono ?_; rintro e w' ⟨r, rfl, hr, rfl⟩))
  go_ret
  exact ⟨ret_bool rfl, rfl⟩
set_option maxRecDepth 100000 in
theorem impl_swapsOf {c : ByteArray} {n : Nat} {w : World} (hz : c.size ≤ 16777216) (hn : n ≤ 8) (hg : isDash c = true ∨ validD c = true) :
    Calls Tryz.prog 104 #[.int .i64 n, .string c] w fun e w' => ∃ A' c', e = .returned (.slice A' (swaps n c).length c') ∧
      Owned intE 1 3 w' w.heap.size A' (swaps n c).length c' (swaps n c) ∧ Below w.heap.size w w' := by
  have hpz : (plsOf c).length ≤ 16777216 := by
    rcases h6 : isDash c
    · rw [plsOf_digs h6, digs_len]; exact hz
    · rw [plsOf_dash h6]; decide
  go_in
  go_wp2_with (first | (go_at_call 105; refine (impl_placesOf hz hg).mono ?_; rintro e w1 ⟨A1, c1, rfl, ho1, hb1⟩; have hst := ho1.recs; have hsz1 := hb1.size; clear ho1))
  go_loopw [6, 7] (fun v i wr => ∃ (k : Nat) (A' : Option Addr) (m c' : Nat) (l : List Int), k ≤ n + 1 ∧ i = .int .i64 (k + 1 : Nat) ∧ v = .slice A' m c' ∧ Hid (swaps n c = l ++ sws (stays c) n (k + 1)) ∧ m ≤ k ∧ Owned intE 1 3 wr w1.heap.size A' m c' l ∧ Below w1.heap.size w1 wr) (fun _ i _ => n + 2 - (intOf i).toNat)
  case atStart => exact ⟨0, _, _, _, [], by omega, rfl, rfl, Lib.hid rfl, by omega, Owned.empty intE_len _ _ (by simp), by (repeat' (first | (with_reducible exact Below.refl _ _) | (with_reducible assumption) | (with_reducible refine below_drewN ?_ _) | (with_reducible refine Below.drew ?_) | (with_reducible refine below_alloc ?_ _) | (with_reducible refine Below.alloc ?_ ?_ _) | (with_reducible refine Below.setCell ?_ ?_ _) | (with_reducible refine below_go ?_ (by with_reducible assumption)) | (with_reducible refine below_then (by with_reducible assumption) ?_ ?_) | go_size))⟩
  case round =>
    obtain ⟨k, A', m, c', l, hk, rfl, rfl, HK, hmk, ho, hb⟩ := hrel
    have HO := Lib.hid ho
    have hsz := hb.size
    have hS := Lib.hid (hst.below hb (Nat.le_refl _))
    clear ho hst
    by_cases hlt : k + 1 < n
    · have hpc : Hid (hasI (plsOf c) ((k : Int) + 1) = stays c ((k : Int) + 1)) := Lib.hid (pls_has (c := c) (p := (k : Int) + 1) (by omega))
      rcases hs : stays c ((k : Int) + 1)
      · have e1 := Lib.hid (sws_swap hlt hs)
        have hs2 : hasI (plsOf c) ((k : Int) + 1) = false := hpc.out.trans hs
        go_wp2_with (first | (go_at_call 106; refine (slices_ContainsInt rfl hS.out hpz).mono ?_; rintro e w' ⟨rfl, rfl⟩) | (at_builtin; go_must ((refine wpList_append_rec Tryz.elInt rfl (.tmp 20) (.tmp 22) rfl rfl (HO.out.alloc _) ((k : Int) + 1) rfl (Box.at_ _ [.int .i64 ((k : Int) + 1)] _ ?_) (intE_one _) ?_ (by decide) ?_ ?_; (focus (first | omega | (simp only [World.size_alloc]; done) | (simp only [World.size_alloc]; omega) | (simp; done) | (simp; omega))); (focus (first | omega | (simp only [World.size_alloc]; done) | (simp only [World.size_alloc]; omega) | (simp; done) | (simp; omega))); (focus (first | omega | (simp only [World.size_alloc]; done) | (simp only [World.size_alloc]; omega) | (simp; done) | (simp; omega))); intro A2 c2 w2 ho2 hg2 hb2))))
        go_roundw
        case rel => exact ⟨k + 2, A2, m + 1, c2, l ++ [((k + 1 : Nat) : Int)], by omega, by go_num, by go_num, Lib.hid (by rw [HK.out, e1.out, List.append_assoc]; rfl), by omega, ho2, (hb.alloc hsz _).trans hb2⟩
        case measure => simp [intOf]; omega
      · have e1 := Lib.hid (sws_stay hlt hs)
        have hs2 : hasI (plsOf c) ((k : Int) + 1) = true := hpc.out.trans hs
        go_wp2_with (first | (go_at_call 106; refine (slices_ContainsInt rfl hS.out hpz).mono ?_; rintro e w' ⟨rfl, rfl⟩))
        go_roundw
        case rel => exact ⟨k + 1, A', m, c', l, by omega, by go_num, rfl, Lib.hid (by rw [HK.out, e1.out]), by omega, HO.out, by (repeat' (first | (with_reducible exact Below.refl _ _) | (with_reducible assumption) | (with_reducible refine below_drewN ?_ _) | (with_reducible refine Below.drew ?_) | (with_reducible refine below_alloc ?_ _) | (with_reducible refine Below.alloc ?_ ?_ _) | (with_reducible refine Below.setCell ?_ ?_ _) | (with_reducible refine below_go ?_ (by with_reducible assumption)) | (with_reducible refine below_then (by with_reducible assumption) ?_ ?_) | go_size))⟩
        case measure => simp [intOf]; omega
    · have e1 := Lib.hid (show swaps n c = l by rw [HK.out, sws_end hlt, List.append_nil])
      have hl := HO.out.len
      go_wp2
      go_ret
      rw [e1.out, hl]
      exact ⟨_, _, rfl, HO.out.base_le hsz1, below_go hb1 hb⟩
def signR (n : Int) (c : ByteArray) : Bool := goodChange n c && evenSwaps n.toNat c
end Go.Proofs.YtoheahbkopbmhaaGreat
/- The walks through the row of a change, the reference's side. -/
namespace Go.Proofs.YtoheahbkopbmhaaGreat
set_option linter.unusedVariables false
set_option linter.unusedSimpArgs false
open Go.ChangeShapes Go.WideShapes Go.ChangeAt Go.RowKit Go.Deep
theorem spec_l1Rounds {n : Nat} {w : World} (hn : n ≤ 8) :
    Calls Tryz.prog 21 #[.int .i64 n] w fun e w' => e = .returned (.string (roundsS n)) ∧ w = w' := by
  go_in
  go_wp2
  go_ret
  exact ⟨rfl, rfl⟩
theorem impl_rounds {n : Nat} {w : World} (hn : n ≤ 8) :
    Calls Tryz.prog 48 #[.int .i64 n] w fun e w' => e = .returned (.string (roundsS n)) ∧ w = w' := by
  go_in
  go_wp2
  go_ret
  exact ⟨rfl, rfl⟩
set_option maxRecDepth 100000 in
theorem spec_l2Row {c : ByteArray} {n : Nat} {w : World} (hz : c.size ≤ 16777216) (hn : n ≤ 8) :
    Calls Tryz.prog 64 #[.int .i64 n, .string c] w fun e w' => e = .returned (.string (chRow n c)) ∧ Below w.heap.size w w' := by
  have hcv := run_bytes (P := Tryz.prog) (src := 9) (dst := 86) (e := 5) (roundsS n) Tryz.underlying9 Tryz.underlying86 Tryz.underlying5
  have hrs := rounds_size n (by omega)
  rw [hrs] at hcv
  have hE : Hid (chRow n c = strOfNums (rowV n (swaps n c))) := Lib.hid rfl
  go_in
  go_wp2_with (first | (go_at_call 21; refine (spec_l1Rounds hn).mono ?_; rintro e w' ⟨rfl, rfl⟩))
  have hr0 := bytesW_row w 5 (roundsS n)
  have hb0 := bytesW_below w 5 (roundsS n)
  rw [rowV_nil n (by omega)] at hr0
  clear hcv
  generalize grownCap w n 0 5 = cc
  go_loopw [6] (fun i wr => ∃ (k : Nat) (l : List Int), k ≤ n + 1 ∧ i = .int .i64 (k + 1 : Nat) ∧ Hid (swaps n c = l ++ sws (stays c) n (k + 1)) ∧ Hid (∀ x ∈ l, x + 2 ≤ ((k + 1 : Nat) : Int)) ∧ Hid (BRow wr w.heap.size (rowV n l)) ∧ Below w.heap.size w wr) (fun i _ => n + 2 - (intOf i).toNat)
  case atStart => exact ⟨0, [], by omega, rfl, Lib.hid rfl, Lib.hid (fun x hx => by cases hx), Lib.hid hr0, hb0⟩
  case round =>
    obtain ⟨k, l, hk, rfl, HK, HL, HR, hb⟩ := hrel
    by_cases hlt : k + 1 < n
    · have hI : I64 ((k : Int) + 1) := by unfold I64; omega
      rcases hs : stays c ((k : Int) + 1)
      · have e1 := Lib.hid (sws_swap hlt hs)
        have hrow := Lib.hid (rowV_step (p := k + 1) (by omega) hlt HL.out)
        have hlen := rowV_len n l
        have c1 := HR.out.2.1 k _ (List.getElem?_eq_getElem (by omega))
        have c2 := HR.out.2.1 (k + 1) _ (List.getElem?_eq_getElem (by omega))
        have f1 := HR.out.2.2 k (by omega)
        have f2 := HR.out.2.2 (k + 1) (by omega)
        have hR2 := Lib.hid ((HR.out.set (k := k) (by omega) (49 + ((k + 1 : Nat) : Int))).set (k := k + 1) (by rw [List.length_set]; omega) (48 + ((k + 1 : Nat) : Int)))
        go_wp2_with (first | (go_at_call 83; refine (spec_l2Stays hz hI).mono ?_; rintro e w' ⟨rfl, rfl⟩))
        go_roundw
        case rel => exact ⟨k + 2, l ++ [((k + 1 : Nat) : Int)], by omega, by go_num, Lib.hid (by rw [HK.out, e1.out, List.append_assoc]; rfl), Lib.hid (fun x hx => by
            rcases List.mem_append.1 hx with hx | hx
            · have := HL.out x hx; omega
            · rw [List.mem_singleton.1 hx]; omega), Lib.hid (by rw [hrow.out]; exact hR2.out), by (repeat' (first | (with_reducible exact Below.refl _ _) | (with_reducible assumption) | (with_reducible refine below_drewN ?_ _) | (with_reducible refine Below.drew ?_) | (with_reducible refine below_alloc ?_ _) | (with_reducible refine Below.alloc ?_ ?_ _) | (with_reducible refine Below.setCell ?_ ?_ _) | (with_reducible refine below_go ?_ (by with_reducible assumption)) | (with_reducible refine below_then (by with_reducible assumption) ?_ ?_) | go_size))⟩
        case measure => simp [intOf]; omega
      · have e1 := Lib.hid (sws_stay hlt hs)
        go_wp2_with (first | (go_at_call 83; refine (spec_l2Stays hz hI).mono ?_; rintro e w' ⟨rfl, rfl⟩))
        go_roundw
        case rel => exact ⟨k + 1, l, by omega, by go_num, Lib.hid (by rw [HK.out, e1.out]), Lib.hid (fun x hx => by have := HL.out x hx; omega), HR, hb⟩
        case measure => simp [intOf]; omega
    · have e1 := Lib.hid (show swaps n c = l by rw [HK.out, sws_end hlt, List.append_nil])
      have ht := HR.out.text (P := Tryz.prog) (src := 86) (e := 5) (dst := 9) n cc (rowV_len n l) Tryz.underlying86 Tryz.underlying5 Tryz.underlying9
      go_wp2
      go_ret
      rw [hE.out, e1.out]
      exact ⟨rfl, hb⟩
end Go.Proofs.YtoheahbkopbmhaaGreat
/- The walk through the row of a change, the program's side. -/
namespace Go.Proofs.YtoheahbkopbmhaaGreat
set_option linter.unusedVariables false
set_option linter.unusedSimpArgs false
open Go.ChangeShapes Go.WideShapes Go.ChangeAt Go.RowKit Go.Deep
set_option maxRecDepth 100000 in
theorem impl_changeRow {c : ByteArray} {n : Nat} {w : World} (hz : c.size ≤ 16777216) (hn : n ≤ 8) (hg : isDash c = true ∨ validD c = true) :
    Calls Tryz.prog 103 #[.int .i64 n, .string c] w fun e w' => e = .returned (.string (chRow n c)) ∧ Below w.heap.size w w' := by
  have hcv := run_bytes (P := Tryz.prog) (src := 9) (dst := 86) (e := 5) (roundsS n) Tryz.underlying9 Tryz.underlying86 Tryz.underlying5
  have hrs := rounds_size n (by omega)
  rw [hrs] at hcv
  have hE : Hid (chRow n c = strOfNums (rowV n (swaps n c))) := Lib.hid rfl
  have hlen8 : (swaps n c).length ≤ 8 := by
    have := sws_len (stays c) n 1
    rw [swaps]; omega
  have hin : Hid (∀ x ∈ swaps n c, ((1 : Nat) : Int) ≤ x ∧ x < n) := Lib.hid (sws_in (stays c) n 1)
  have hfar : Hid ((swaps n c).Pairwise fun x y => x + 2 ≤ y) := Lib.hid (sws_far (stays c) n 1)
  have hr0 := Lib.hid (bytesW_row w 5 (roundsS n))
  have hb0 := bytesW_below w 5 (roundsS n)
  rw [rowV_nil n (by omega)] at hr0
  have hs0 := bytesW_size w 5 (roundsS n)
  go_in
  go_wp2_with (first | (go_at_call 48; refine (impl_rounds hn).mono ?_; rintro e w' ⟨rfl, rfl⟩) | (go_at_call 104; refine (impl_swapsOf hz hn hg).mono ?_; rintro e w1 ⟨A1, c1, rfl, ho1, hb1⟩))
  clear hcv
  generalize grownCap w n 0 5 = cc
  have hr1 := Lib.hid (hr0.out.up hb1)
  have hb01 := below_go hb0 hb1
  have hs1 := hb1.size
  rw [hs0] at ho1
  have HO1 := Lib.hid ho1
  clear ho1 hr0
  generalize hsw : swaps n c = sw at *
  clear hsw
  go_loopw [15] (fun i wr => ∃ k : Nat, k ≤ sw.length ∧ i = .int .i64 k ∧ Hid (BRow wr w.heap.size (rowV n (sw.take k))) ∧ Hid (Owned intE 1 3 wr (w.heap.size + 1) A1 sw.length c1 sw) ∧ Below w.heap.size w wr) (fun i _ => sw.length - (intOf i).toNat)
  case atStart => exact ⟨0, Nat.zero_le _, rfl, hr1, HO1, hb01⟩
  case round =>
    obtain ⟨k, hk, rfl, HR, HO, hb⟩ := hrel
    by_cases hlt : k < sw.length
    · obtain ⟨b3, o3, y, rfl, hbb, hy, hcy⟩ := HO.out.recs.at_int hlt
      have hyin := hin.out y (List.mem_of_getElem? hy)
      obtain ⟨q, rfl⟩ : ∃ q : Nat, y = (q : Int) + 1 := ⟨(y - 1).toNat, by omega⟩
      have hq : q + 1 < n := by omega
      have hfr : ∀ x ∈ sw.take k, x + 2 ≤ ((q + 1 : Nat) : Int) := take_far hfar.out hy
      have hpl := rowV_plain hq hfr
      have d1 := HR.out.2.1 q _ hpl.1
      have d2 := HR.out.2.1 (q + 1) _ hpl.2
      have hlen := rowV_len n (sw.take k)
      have f1 := HR.out.2.2 q (by omega)
      have f2 := HR.out.2.2 (q + 1) (by omega)
      have htk := Lib.hid (show sw.take (k + 1) = sw.take k ++ [((q + 1 : Nat) : Int)] from take_succ_some hy)
      have hrow := Lib.hid (rowV_step (p := q + 1) (by omega) hq hfr)
      have hR2 := Lib.hid ((HR.out.set (k := q) (by omega) (49 + ((q : Int) + 1))).set (k := q + 1) (by rw [List.length_set]; omega) (49 + (q : Int)))
      have hO2 : Hid (Owned intE 1 3 ((wr.setCell ⟨w.heap.size, q, none⟩ (.int .u8 (49 + ((q : Int) + 1)))).setCell ⟨w.heap.size, q + 1, none⟩ (.int .u8 (49 + (q : Int)))) (w.heap.size + 1) (some ⟨b3, o3, none⟩) sw.length c1 sw) :=
        Lib.hid ((HO.out.past (only_set _ _) (Nat.lt_succ_self _)).past (only_set _ _) (Nat.lt_succ_self _))
      clear hpl hfr hy hyin
      go_wp2
      go_region
      all_goals go_wp2
      all_goals go_roundw
      case rel => exact ⟨k + 1, by omega, by go_num, Lib.hid (by rw [htk.out, hrow.out, show (48 + ((q + 1 : Nat) : Int)) = 49 + (q : Int) by omega]; exact hR2.out), hO2, by (repeat' (first | (with_reducible exact Below.refl _ _) | (with_reducible assumption) | (with_reducible refine below_drewN ?_ _) | (with_reducible refine Below.drew ?_) | (with_reducible refine below_alloc ?_ _) | (with_reducible refine Below.alloc ?_ ?_ _) | (with_reducible refine Below.setCell ?_ ?_ _) | (with_reducible refine below_go ?_ (by with_reducible assumption)) | (with_reducible refine below_then (by with_reducible assumption) ?_ ?_) | go_size))⟩
      case measure => simp [intOf]; omega
    · obtain rfl : k = sw.length := by omega
      have e1 := Lib.hid (show sw.take sw.length = sw from List.take_of_length_le (Nat.le_refl _))
      have ht := HR.out.text (P := Tryz.prog) (src := 86) (e := 5) (dst := 9) n cc (rowV_len n _) Tryz.underlying86 Tryz.underlying5 Tryz.underlying9
      rw [e1.out, ← hE.out] at ht
      go_wp2
      go_ret
      exact ⟨rfl, hb⟩
end Go.Proofs.YtoheahbkopbmhaaGreat
/- The walks through a row taken through another, both sides. -/
namespace Go.Proofs.YtoheahbkopbmhaaGreat
set_option linter.unusedVariables false
set_option linter.unusedSimpArgs false
open Go.ChangeShapes Go.WideShapes Go.ChangeAt Go.RowKit Go.Deep
set_option maxRecDepth 100000 in
theorem impl_times {a b : ByteArray} {w : World} (ha : a.size ≤ 16777216) (hz : b.size ≤ 16777216) (hf : fits a b) :
    Calls Tryz.prog 50 #[.string a, .string b] w fun e w' => e = .returned (.string (timesS a b)) ∧ Below w.heap.size w w' := by
  have hba := PlainAid.get_bt a
  have hbb := PlainAid.get_bt b
  have hmk := run_make_rec (e := byteE) Tryz.elU8 0 rfl b.size (by omega) (by decide)
  have hE : Hid (timesS a b = strOfNums (timesL a b)) := Lib.hid rfl
  have HF : Hid (fits a b) := hf
  have hr0 : Hid (BRow (w.alloc (.cells (madeCells (byteE 0).toArray (b.size * 1)) 5)) w.heap.size (List.replicate b.size 0)) := Lib.hid (BRow.of_owned (Owned.made (e := byteE) (s := 1) byteE_len w 5 0 b.size (by omega) (Nat.le_refl _)))
  have hb0 : Below w.heap.size w (w.alloc (.cells (madeCells (byteE 0).toArray (b.size * 1)) 5)) := by (repeat' (first | (with_reducible exact Below.refl _ _) | (with_reducible assumption) | (with_reducible refine below_drewN ?_ _) | (with_reducible refine Below.drew ?_) | (with_reducible refine below_alloc ?_ _) | (with_reducible refine Below.alloc ?_ ?_ _) | (with_reducible refine Below.setCell ?_ ?_ _) | (with_reducible refine below_go ?_ (by with_reducible assumption)) | (with_reducible refine below_then (by with_reducible assumption) ?_ ?_) | go_size))
  clear hf
  rw [Nat.mul_one] at hr0 hb0 hmk
  go_in
  go_wp2
  clear hmk
  go_loopw [12] (fun i wr => ∃ (k : Nat) (m : List Int), k ≤ b.size ∧ i = .int .i64 k ∧ Hid (∀ j, j < k → m[j]? = (timesL a b)[j]?) ∧ m.length = b.size ∧ Hid (BRow wr w.heap.size m) ∧ Below w.heap.size w wr) (fun i _ => b.size - (intOf i).toNat)
  case atStart => exact ⟨0, _, Nat.zero_le _, rfl, Lib.hid (fun j hj => absurd hj (by omega)), by simp, hr0, hb0⟩
  case round =>
    obtain ⟨k, m, hk, rfl, HM, hml, HR, hb⟩ := hrel
    by_cases hlt : k < b.size
    · have hr := HF.out k hlt
      obtain ⟨q, hq⟩ : ∃ q : Nat, PlainAid.bt b k = (q : Int) + 49 := ⟨(PlainAid.bt b k - 49).toNat, by omega⟩
      have hqa : q < a.size := by omega
      have hb255 := PlainAid.bt_le b k
      have hq6 : q % 256 = q := by omega
      have hq1 : PlainAid.bt b k - 49 = (q : Int) := by omega
      have hq2 : (PlainAid.bt b k - 49).toNat = q := by omega
      have E := Lib.hid (show (timesL a b)[k]? = some (PlainAid.bt a q) by rw [timesL_at hlt, hq2])
      have d1 := HR.out.2.1 k _ (List.getElem?_eq_getElem (by omega))
      have f1 := HR.out.2.2 k (by omega)
      have hR2 := Lib.hid (HR.out.set (k := k) (by omega) (PlainAid.bt a q))
      go_wp2
      go_roundw
      case rel => exact ⟨k + 1, m.set k (PlainAid.bt a q), by omega, by go_num, Lib.hid (upto_set HM.out E.out (by omega)), by rw [List.length_set]; exact hml, hR2, by (repeat' (first | (with_reducible exact Below.refl _ _) | (with_reducible assumption) | (with_reducible refine below_drewN ?_ _) | (with_reducible refine Below.drew ?_) | (with_reducible refine below_alloc ?_ _) | (with_reducible refine Below.alloc ?_ ?_ _) | (with_reducible refine Below.setCell ?_ ?_ _) | (with_reducible refine below_go ?_ (by with_reducible assumption)) | (with_reducible refine below_then (by with_reducible assumption) ?_ ?_) | go_size))⟩
      case measure => simp [intOf]; omega
    · obtain rfl : k = b.size := by omega
      have e1 : m = timesL a b := eq_of_upto (fun j hj => HM.out j hj) hml (timesL_len a b)
      have ht := HR.out.text (P := Tryz.prog) (src := 86) (e := 5) (dst := 9) b.size b.size hml Tryz.underlying86 Tryz.underlying5 Tryz.underlying9
      rw [e1, ← hE.out] at ht
      go_wp2
      go_ret
      exact ⟨rfl, hb⟩
theorem spec_l1At {b : ByteArray} {k : Nat} {w : World} (hk : k < b.size) (hz : b.size ≤ 16777216) (hlo : 48 ≤ PlainAid.bt b k) :
    Calls Tryz.prog 63 #[.string b, .int .i64 ((k : Int) + 1)] w fun e w' => e = .returned (.int .i64 (PlainAid.bt b k - 48)) ∧ w = w' := by
  have hbb := PlainAid.get_bt b
  have hn1 := PlainAid.bt_le b k
  go_in
  go_wp2
  go_ret
  exact ⟨rfl, rfl⟩
set_option maxRecDepth 100000 in
theorem spec_l1Times {a b : ByteArray} {w : World} (ha : a.size ≤ 16777216) (hz : b.size ≤ 16777216) (hf : fits a b) :
    Calls Tryz.prog 41 #[.string a, .string b] w fun e w' => e = .returned (.string (timesS a b)) ∧ w = w' := by
  have hE : Hid (timesS a b = strOfNums (timesL a b)) := Lib.hid rfl
  have HF : Hid (fits a b) := hf
  clear hf
  go_in
  go_wp2
  go_loopw [5, 6] (fun v i wr => ∃ (k : Nat) (s : ByteArray), k ≤ b.size ∧ i = .int .i64 (k + 1 : Nat) ∧ v = .string s ∧ s.size = k ∧ Hid (s = strOfNums ((timesL a b).take k)) ∧ w = wr) (fun _ i _ => b.size + 1 - (intOf i).toNat)
  case atStart => exact ⟨0, _, Nat.zero_le _, rfl, rfl, rfl, Lib.hid rfl, rfl⟩
  case round =>
    obtain ⟨k, s, hk, rfl, rfl, hsk, HS, rfl⟩ := hrel
    by_cases hlt : k < b.size
    · have hr := HF.out k hlt
      obtain ⟨q, hq⟩ : ∃ q : Nat, PlainAid.bt b k = (q : Int) + 49 := ⟨(PlainAid.bt b k - 49).toNat, by omega⟩
      have hqa : q < a.size := by omega
      have hq2 : (PlainAid.bt b k - 49).toNat = q := by omega
      have hq3 : PlainAid.bt b k - 48 = (q : Int) + 1 := by omega
      have E := Lib.hid (show (timesL a b)[k]? = some (PlainAid.bt a q) by rw [timesL_at hlt, hq2])
      have hx := one_byte hqa
      have hxs : (a.extract q (q + 1)).size = 1 := by rw [hx]; rfl
      have hsz : (s ++ a.extract q (q + 1)).size = k + 1 := by rw [ByteArray.size_append, hxs, hsk]
      have HS2 := Lib.hid (show s ++ a.extract q (q + 1) = strOfNums ((timesL a b).take (k + 1)) by rw [HS.out, hx, take_succ_some E.out, strOf_append])
      have h48 : 48 ≤ PlainAid.bt b k := by omega
      clear hx
      go_wp2_with (first | (go_at_call 63; refine (spec_l1At hlt hz h48).mono ?_; rw [hq3]; rintro e w' ⟨rfl, rfl⟩))
      go_roundw
      case rel => exact ⟨k + 1, s ++ a.extract q (q + 1), by omega, by go_num, rfl, hsz, HS2, trivial⟩
      case measure => simp [intOf]; omega
    · obtain rfl : k = b.size := by omega
      have e1 := Lib.hid (show s = timesS a b by rw [HS.out, hE.out, List.take_of_length_le (by rw [timesL_len]; exact Nat.le_refl _)])
      go_wp2
      go_ret
      rw [e1.out]
      exact ⟨rfl, rfl⟩
end Go.Proofs.YtoheahbkopbmhaaGreat
/- The walks through rows under changes, both sides. -/
namespace Go.Proofs.YtoheahbkopbmhaaGreat
set_option linter.unusedVariables false
set_option linter.unusedSimpArgs false
open Go.ChangeShapes Go.WideShapes Go.ChangeAt Go.RowKit Go.Deep
theorem impl_apply {a c : ByteArray} {w : World} (ha : a.size ≤ 8) (hz : c.size ≤ 16777216) (hg : isDash c = true ∨ validD c = true) :
    Calls Tryz.prog 101 #[.string a, .string c] w fun e w' => e = .returned (.string (applyR a c)) ∧ Below w.heap.size w w' := by
  have ha2 : a.size ≤ 16777216 := by omega
  have hcs : (chRow a.size c).size ≤ 16777216 := by rw [chRow_size]; omega
  have hft := chRow_fits ha c
  go_in
  go_wp2_with (first | (go_at_call 103; refine (impl_changeRow hz ha hg).mono ?_; rintro e w1 ⟨rfl, hb1⟩) | (go_at_call 50; refine (impl_times ha2 hcs hft).mono ?_; rintro e w2 ⟨rfl, hb2⟩))
  go_ret
  exact ⟨rfl, below_go hb1 hb2⟩
theorem spec_l2Apply {a c : ByteArray} {w : World} (ha : a.size ≤ 8) (hz : c.size ≤ 16777216) :
    Calls Tryz.prog 43 #[.string a, .string c] w fun e w' => e = .returned (.string (applyR a c)) ∧ Below w.heap.size w w' := by
  have ha2 : a.size ≤ 16777216 := by omega
  have hcs : (chRow a.size c).size ≤ 16777216 := by rw [chRow_size]; omega
  have hft := chRow_fits ha c
  go_in
  go_wp2_with (first | (go_at_call 64; refine (spec_l2Row hz ha).mono ?_; rintro e w1 ⟨rfl, hb1⟩) | (go_at_call 41; refine (spec_l1Times ha2 hcs hft).mono ?_; rintro e w2 ⟨rfl, rfl⟩))
  go_ret
  exact ⟨rfl, hb1⟩
set_option maxRecDepth 100000 in
theorem impl_rowsUnder {A : Option Addr} {N c : Nat} {a : ByteArray} {l : List ByteArray} {w : World} (ha : a.size ≤ 8) (hN : l.length = N) (h : Strs w A l) (hz : N ≤ 16000000) (hs : ∀ s ∈ l, s.size ≤ 16777216) (hg : ∀ s ∈ l, isDash s = true ∨ validD s = true) :
    Calls Tryz.prog 88 #[.string a, .slice A N c] w fun e w' => ∃ A' c', e = .returned (.slice A' (N + 1) c') ∧
      Owned strE 1 9 w' w.heap.size A' (N + 1) c' (rowsL a l (N + 1)) ∧ Below w.heap.size w w' := by
  subst hN
  have HS := Lib.hid hs
  have HGd := Lib.hid hg
  have h1 : Hid (Owned strE 1 9 (w.alloc (.cells #[.string a] 9)) w.heap.size (some ⟨w.heap.size, 0, none⟩) 1 1 (rowsL a l 1)) := Lib.hid ⟨strE_len, by simp [rowsL], by simpa [rowsL, rAt, strE] using World.ownsRow_lit (e := 9) (base := w.heap.size) (size := 1) w #[.string a] 1 (Nat.le_refl _) (by decide) (by simp)⟩
  clear hs hg
  go_in
  go_wp2
  go_loopw [0, 5, 12] (fun r v i wr => ∃ (k : Nat) (A' : Option Addr) (m c' : Nat), k ≤ l.length ∧ i = .int .i64 k ∧ r = .string (rAt a l k) ∧ v = .slice A' m c' ∧ m = k + 1 ∧ Owned strE 1 9 wr w.heap.size A' m c' (rowsL a l (k + 1)) ∧ Below w.heap.size w wr) (fun _ _ i _ => l.length - (intOf i).toNat)
  case atStart => exact ⟨0, _, _, _, Nat.zero_le _, rfl, rfl, rfl, rfl, h1.out, by (repeat' (first | (with_reducible exact Below.refl _ _) | (with_reducible assumption) | (with_reducible refine below_drewN ?_ _) | (with_reducible refine Below.drew ?_) | (with_reducible refine below_alloc ?_ _) | (with_reducible refine Below.alloc ?_ ?_ _) | (with_reducible refine Below.setCell ?_ ?_ _) | (with_reducible refine below_go ?_ (by with_reducible assumption)) | (with_reducible refine below_then (by with_reducible assumption) ?_ ?_) | go_size))⟩
  case round =>
    obtain ⟨k, A', m, c', hk, rfl, rfl, rfl, rfl, ho, hb⟩ := hrel
    have HO := Lib.hid ho
    have hsz := hb.size
    clear ho
    by_cases hlt : k < l.length
    · obtain ⟨b1, o1, y, rfl, hbb, hy, hcy⟩ := (h.below hb (Nat.le_refl _)).at_str hlt
      have hys := HS.out y (List.mem_of_getElem? hy)
      have hgy := HGd.out y (List.mem_of_getElem? hy)
      have hra : (rAt a l k).size ≤ 8 := by rw [rAt_size]; exact ha
      have E := Lib.hid (rAt_succ (a := a) hy)
      have HT := Lib.hid (rowsL_succ a l (k + 1))
      clear hy
      go_wp2_with (first | (go_at_call 101; refine (impl_apply hra hys hgy).mono ?_; rw [← E.out]; rintro e w1 ⟨rfl, hb1⟩; have HO1 := Lib.hid (HO.out.up hb1); have hsz1 := hb1.size) | (at_builtin; go_must ((refine wpList_append_rec Tryz.elStr rfl (.tmp 19) (.tmp 21) rfl rfl (HO1.out.alloc _) (rAt a l (k + 1)) rfl (Box.at_ _ [.string (rAt a l (k + 1))] _ ?_) (strE_one _) ?_ (by decide) ?_ ?_; (focus (first | omega | (simp only [World.size_alloc]; done) | (simp only [World.size_alloc]; omega) | (simp; done) | (simp; omega))); (focus (first | omega | (simp only [World.size_alloc]; done) | (simp only [World.size_alloc]; omega) | (simp; done) | (simp; omega))); (focus (first | omega | (simp only [World.size_alloc]; done) | (simp only [World.size_alloc]; omega) | (simp; done) | (simp; omega))); intro A2 c2 w2 ho2 hg2 hb2))))
      go_roundw
      case rel => exact ⟨k + 1, A2, k + 1 + 1, c2, by omega, by go_num, rfl, by go_num, rfl, by rw [HT.out]; exact ho2, ((hb.trans (hb1.mono hsz)).alloc (by omega) _).trans hb2⟩
      case measure => simp [intOf]; omega
    · obtain rfl : k = l.length := by omega
      go_wp2
      go_ret
      exact ⟨_, _, rfl, HO.out, hb⟩
set_option maxRecDepth 100000 in
theorem spec_l4Lead {A : Option Addr} {N c : Nat} {a : ByteArray} {l : List ByteArray} {w : World} (ha : a.size ≤ 8) (hN : l.length = N) (h : Strs w A l) (hz : N ≤ 16000000) (hs : ∀ s ∈ l, s.size ≤ 16777216) :
    Calls Tryz.prog 19 #[.slice A N c, .string a] w fun e w' => ∃ A' c', e = .returned (.tuple #[.slice A' N c', .string (rAt a l N)]) ∧
      Owned strE 1 9 w' w.heap.size A' N c' (rowsL a l N) ∧ Below w.heap.size w w' := by
  subst hN
  have HS := Lib.hid hs
  clear hs
  go_in
  go_wp2
  go_loopw [6, 7, 13] (fun v r i wr => ∃ (k : Nat) (A' : Option Addr) (m c' : Nat), k ≤ l.length ∧ i = .int .i64 k ∧ r = .string (rAt a l k) ∧ v = .slice A' m c' ∧ m = k ∧ Owned strE 1 9 wr w.heap.size A' m c' (rowsL a l k) ∧ Below w.heap.size w wr) (fun _ _ i _ => l.length - (intOf i).toNat)
  case atStart => exact ⟨0, none, 0, 0, Nat.zero_le _, rfl, rfl, rfl, rfl, Owned.nil strE_len _ _ _, Below.refl _ _⟩
  case round =>
    obtain ⟨k, A', m, c', hk, rfl, rfl, rfl, rfl, ho, hb⟩ := hrel
    have HO := Lib.hid ho
    have hsz := hb.size
    clear ho
    by_cases hlt : m < l.length
    · obtain ⟨b1, o1, y, rfl, hbb, hy, hcy⟩ := (h.below hb (Nat.le_refl _)).at_str hlt
      have hys := HS.out y (List.mem_of_getElem? hy)
      have hra : (rAt a l m).size ≤ 8 := by rw [rAt_size]; exact ha
      have E := Lib.hid (rAt_succ (a := a) hy)
      have HT := Lib.hid (rowsL_succ a l m)
      clear hy
      go_wp2_with (first | (go_at_call 43; refine (spec_l2Apply hra hys).mono ?_; rw [← E.out]; rintro e w3 ⟨rfl, hb3⟩) | (at_builtin; go_must ((refine wpList_append_rec Tryz.elStr rfl (.tmp 17) (.tmp 19) rfl rfl (HO.out.alloc _) (rAt a l m) rfl (Box.at_ _ [.string (rAt a l m)] _ ?_) (strE_one _) ?_ (by decide) ?_ ?_; (focus (first | omega | (simp only [World.size_alloc]; done) | (simp only [World.size_alloc]; omega) | (simp; done) | (simp; omega))); (focus (first | omega | (simp only [World.size_alloc]; done) | (simp only [World.size_alloc]; omega) | (simp; done) | (simp; omega))); (focus (first | omega | (simp only [World.size_alloc]; done) | (simp only [World.size_alloc]; omega) | (simp; done) | (simp; omega))); intro A2 c2 w2 ho2 hg2 hb2; have hsz2 := hb2.size))))
      go_roundw
      case rel => exact ⟨m + 1, A2, m + 1, c2, by omega, by go_num, rfl, by go_num, rfl, by rw [HT.out]; exact ho2.up hb3, below_go ((hb.alloc hsz _).trans hb2) hb3⟩
      case measure => simp [intOf]; omega
    · obtain rfl : m = l.length := by omega
      go_wp2
      go_ret2
      exact ⟨_, _, rfl, HO.out, hb⟩
end Go.Proofs.YtoheahbkopbmhaaGreat
/- A map to bools that the call has made, used as a set of keys. -/
namespace Go.Proofs.YtoheahbkopbmhaaGreat
set_option linter.unusedVariables false
set_option linter.unusedSimpArgs false
open Go.ChangeShapes Go.WideShapes Go.ChangeAt Go.RowKit Go.Deep
open Go.Maps (Keyed)

/-- Block b is a map of at most n entries that holds true at the keys of S and at no other. -/
def SetOf (P : Program) (w : World) (k e : TypeId) (b n : Nat) (S : List Value) : Prop :=
  ∃ D : DataW Unit, w.ownsMap P k (plainElem P e) b n D ∧ ∀ key kl, keyOf P k key = some kl → (key ∈ S → D.atKey kl (.lit (.bool false)) = .lit (.bool true)) ∧ (key ∉ S → D.atKey kl (.lit (.bool false)) = .lit (.bool false))
section
variable {P : Program} {w w' : World} {k e : TypeId} {b n : Nat} {S : List Value}
theorem SetOf.made (P : Program) (w : World) (k e : TypeId) : SetOf P (w.alloc (.map #[] 0)) k e w.heap.size 0 [] :=
  ⟨.map [], World.ownsMap_made w P k _, fun key kl _ => ⟨fun h => (by cases h), fun _ => rfl⟩⟩
theorem SetOf.lt (h : SetOf P w k e b n S) : b < w.heap.size := by
  obtain ⟨D, h1, _⟩ := h
  exact h1.lt
theorem SetOf.kept {row : Option Nat} (h : SetOf P w k e b n S) (hg : w.grownBy w' row) (hne : some b ≠ row) : SetOf P w' k e b n S := by
  obtain ⟨D, h1, h2⟩ := h
  exact ⟨D, h1.kept hg hne, h2⟩
theorem SetOf.up (h : SetOf P w k e b n S) (hb : Below w.heap.size w w') : SetOf P w' k e b n S := h.kept (grown_of_below hb) (by simp)
theorem SetOf.alloc (h : SetOf P w k e b n S) (o : Obj) : SetOf P (w.alloc o) k e b n S := h.up ((Below.refl _ _).alloc (Nat.le_refl _) o)
theorem plainElem_bool_inv (he : P.underlying e = some .bool) {v : Value} {x : Bool} {ps : List MemPlace} (h : plainElem (H := Unit) P e v = some (.lit (.bool x), ps)) : v = .bool x := by
  unfold plainElem at h
  rw [he] at h
  cases v <;> simp at h
  rw [h.1]
theorem SetOf.look {t : TypeId} (h : SetOf P w k e b n S) (K : Keyed P k) (ht : P.underlying t = some (.map k e)) (he : P.underlying e = some .bool) (hz : (zeroValue e).run P w = .ok (.bool false) w) {key : Value} {kl : Lit} (hkey : keyOf P k key = some kl) :
    (key ∈ S → (Instr.lookup t (.map (some b)) key false).run P w = .ok (.bool true) w) ∧ (key ∉ S → (Instr.lookup t (.map (some b)) key false).run P w = .ok (.bool false) w) := by
  obtain ⟨D, h1, h2⟩ := h
  obtain ⟨v, ps, hrun, hv⟩ := h1.lookup K ht hz (plainElem_bool he false) hkey
  obtain ⟨a1, a2⟩ := h2 key kl hkey
  refine ⟨fun hi => ?_, fun hi => ?_⟩
  · rw [a1 hi] at hv
    rw [hrun, plainElem_bool_inv he hv]
  · rw [a2 hi] at hv
    rw [hrun, plainElem_bool_inv he hv]
end
theorem wpList_set_add {P : Program} {ops : Array Oper} {rest : List Oper} {o : Oper} {a : Act} {Q : Exit → Act → World → Prop} {W : World} (hgd : o.guard = none) (M X V : Operand) (t : TypeId) (hop : o.op = Op.mapUpdate t M X V)
    {k e : TypeId} (K : Keyed P k) (ht : P.underlying t = some (.map k e)) (he : P.underlying e = some .bool) {b n : Nat} {S : List Value} (hm : a.eval M = .map (some b)) (h : SetOf P W k e b n S) (hn : n ≤ 16777216) {key : Value} (hx : a.eval X = key) (hv : a.eval V = .bool true)
    {kl : Lit} (hkey : keyOf P k key = some kl) (hK : ∀ w', SetOf P w' k e b (n + 1) (key :: S) → W.grownBy w' (some b) → wpList P ops Q rest (a.put o.dst undef) w') : wpList P ops Q (o :: rest) a W := by
  obtain ⟨D, h1, h2⟩ := h
  refine wpList_mapUpdate_own W hgd M X V t hop k e K ht _ b n D hm h1 (by unfold maxLen; omega) key (.bool true) kl hx hv hkey (.lit (.bool true)) [] (plainElem_bool he true) fun w' hown hg => hK w' ⟨_, hown, fun key' kl' hk' => ?_⟩ hg
  by_cases ek : kl' = kl
  · subst ek
    have e1 : key' = key := K.inj hk' hkey
    subst e1
    rw [Maps.atKey_put_same h1.isMap (K.key hkey)]
    exact ⟨fun _ => rfl, fun hne => absurd (List.mem_cons_self ..) hne⟩
  · have e1 : key' ≠ key := fun e2 => ek (by rw [e2, hkey] at hk'; injection hk' with hk'; exact hk'.symm)
    rw [Maps.atKey_put_other ek]
    obtain ⟨a1, a2⟩ := h2 key' kl' hk'
    refine ⟨fun hi => a1 ?_, fun hi => a2 (fun hc => hi (List.mem_cons_of_mem _ hc))⟩
    rcases List.mem_cons.1 hi with hi | hi
    · exact absurd hi e1
    · exact hi
end Go.Proofs.YtoheahbkopbmhaaGreat
/- The walks through truth: no row twice, both sides' ways. -/
namespace Go.Proofs.YtoheahbkopbmhaaGreat
set_option linter.unusedVariables false
set_option linter.unusedSimpArgs false
open Go.ChangeShapes Go.WideShapes Go.ChangeAt Go.RowKit Go.Deep
open Go.Maps (Keyed string_keyed)
open Go.WideMaps (keyOf_string_mk)
def strV (s : ByteArray) : Value := .string s
theorem strV_mem {s : ByteArray} {l : List ByteArray} : strV s ∈ l.map strV ↔ s ∈ l := by
  rw [List.mem_map]
  constructor
  · rintro ⟨x, hx, e⟩
    injection e with e
    subst e; exact hx
  · intro h; exact ⟨s, h, rfl⟩
set_option maxRecDepth 100000 in
theorem impl_isTrue {A : Option Addr} {N c : Nat} {l : List ByteArray} {w : World} (hN : l.length = N) (h : Strs w A l) (hz : N ≤ 16000000) (hs : ∀ s ∈ l, s.size ≤ 16777216) :
    Calls Tryz.prog 25 #[.slice A N c] w fun e w' => e = .returned (.bool (nodupB l)) ∧ Below w.heap.size w w' := by
  subst hN
  have HS := Lib.hid hs
  clear hs
  have hmm := @run_makeMap Tryz.prog
  have KS := string_keyed (P := Tryz.prog) (k := 9) Tryz.underlying9
  go_in
  go_wp2
  clear hmm
  go_loopw [9] (fun i wr => ∃ k : Nat, k ≤ l.length ∧ i = .int .i64 k ∧ Hid ((l.take k).Nodup) ∧ Hid (SetOf Tryz.prog wr 9 4 w.heap.size k ((l.take k).map strV).reverse) ∧ Below w.heap.size w wr) (fun i _ => l.length - (intOf i).toNat)
  case atStart => exact ⟨0, Nat.zero_le _, rfl, Lib.hid (by simp), Lib.hid (by simpa using SetOf.made Tryz.prog w 9 4), by (repeat' (first | (with_reducible exact Below.refl _ _) | (with_reducible assumption) | (with_reducible refine below_drewN ?_ _) | (with_reducible refine Below.drew ?_) | (with_reducible refine below_alloc ?_ _) | (with_reducible refine Below.alloc ?_ ?_ _) | (with_reducible refine Below.setCell ?_ ?_ _) | (with_reducible refine below_go ?_ (by with_reducible assumption)) | (with_reducible refine below_then (by with_reducible assumption) ?_ ?_) | go_size))⟩
  case round =>
    obtain ⟨k, hk, rfl, HD, HM, hb⟩ := hrel
    by_cases hlt : k < l.length
    · obtain ⟨b1, o1, y, rfl, hbb, hy, hcy⟩ := (h.below hb (Nat.le_refl _)).at_str hlt
      have hys := HS.out y (List.mem_of_getElem? hy)
      have hkey := keyOf_string_mk (P := Tryz.prog) (k := 9) Tryz.underlying9 (s := y) (by unfold maxLen; omega)
      have lk := HM.out.look (t := 72) KS Tryz.underlying72 Tryz.underlying4 (by kernel_rfl) hkey
      have HY := Lib.hid hy
      have mem : (strV y ∈ ((l.take k).map strV).reverse) ↔ y ∈ l.take k := by rw [List.mem_reverse, strV_mem]
      by_cases hin : y ∈ l.take k
      · have lk1 := lk.1 (mem.2 hin)
        have e1 := Lib.hid (show nodupB l = false by
          rw [nodupB, decide_eq_false_iff_not]
          intro hn
          rw [← List.take_append_drop k l, List.nodup_append] at hn
          exact hn.2.2 y hin y (by rw [List.drop_eq_getElem_cons hlt, (List.getElem?_eq_some_iff.1 HY.out).2]; exact List.mem_cons_self ..) rfl)
        clear lk mem hin hy hkey
        go_wp2
        go_ret
        rw [e1.out]
        exact ⟨rfl, hb⟩
      · have lk1 := lk.2 (fun q => hin (mem.1 q))
        have HIN := Lib.hid hin
        have HKEY := Lib.hid hkey
        clear lk mem hin hy hkey
        go_wp2_with (first | (at_mapUpdate; go_must ((refine wpList_set_add rfl (.tmp 16) (.tmp 17) (.const (.bool true)) 72 rfl KS Tryz.underlying72 Tryz.underlying4 rfl HM.out ?_ rfl rfl HKEY.out ?_; (focus (first | omega | (simp only [World.size_alloc]; done) | (simp only [World.size_alloc]; omega) | (simp; done) | (simp; omega))); intro w2 hm2 hg2))))
        go_roundw
        case rel => exact ⟨k + 1, by omega, by go_num, Lib.hid (by
          rw [take_succ_some HY.out, List.nodup_append]
          exact ⟨HD.out, by simp, fun a ha b hb2 e => HIN.out (by rw [← List.mem_singleton.1 hb2, ← e]; exact ha)⟩), Lib.hid (by rw [take_succ_some HY.out, List.map_append, List.reverse_append]; exact hm2), hb.grown hg2 hb.size (fun j hj => by injection hj with hj; omega)⟩
        case measure => simp [intOf]; omega
    · obtain rfl : k = l.length := by omega
      have e1 := Lib.hid (show nodupB l = true by rw [nodupB, decide_eq_true_iff]; have := HD.out; rwa [List.take_of_length_le (Nat.le_refl _)] at this)
      go_wp2
      go_ret
      rw [e1.out]
      exact ⟨rfl, hb⟩
end Go.Proofs.YtoheahbkopbmhaaGreat
/- The walks through the reference's sort of texts, and its search for repeats. -/
namespace Go.Proofs.YtoheahbkopbmhaaGreat
set_option linter.unusedVariables false
set_option linter.unusedSimpArgs false
open Go.ChangeShapes Go.WideShapes Go.ChangeAt Go.RowKit Go.Deep
/-- A part of a row. -/
theorem Recs.part {α : Type} {e : α → List Value} {s : Nat} {w : World} {b o : Nat} {l : List α} (h : Recs e s w (some ⟨b, o, none⟩) l) (i j : Nat) (hij : i ≤ j) (hj : j ≤ l.length) : Recs e s w (some ⟨b, o + i * s, none⟩) ((l.drop i).take (j - i)) := by
  refine ⟨h.1, by rw [flatMap_len h.1], fun hn => ?_⟩
  have hlen : ((l.drop i).take (j - i)).length = j - i := by rw [List.length_take, List.length_drop]; omega
  obtain ⟨b', o', e1, hb, hc⟩ := h.cells (by omega)
  injection e1 with e1
  injection e1 with e1 e2
  subst e1 e2
  refine ⟨b, o + i * s, rfl, hb, fun q u hu => ?_⟩
  have hq := (List.getElem?_eq_some_iff.1 hu).1
  rw [flatMap_len h.1, hlen] at hq
  have hs : 0 < s := by
    rcases Nat.eq_zero_or_pos s with h0 | h0
    · subst h0; omega
    · exact h0
  have hdm : q / s * s + q % s = q := Nat.div_add_mod' q s
  have hqs : q / s < j - i := Nat.div_lt_of_lt_mul (by rw [Nat.mul_comm]; exact hq)
  obtain ⟨x, hx⟩ := some_of_lt (l := (l.drop i).take (j - i)) (k := q / s) (by omega)
  have a1 := flatMap_at h.1 _ (q / s) x (q % s) hx (Nat.mod_lt q hs)
  rw [hdm, hu] at a1
  have hx2 : l[i + q / s]? = some x := by
    rw [List.getElem?_take, if_pos hqs, List.getElem?_drop] at hx; exact hx
  have := hc (i + q / s) x (q % s) u hx2 a1.symm
  rw [show o + i * s + q = o + (i + q / s) * s + q % s by rw [Nat.add_mul]; omega]
  exact this
theorem Owned.cap {α : Type} {e : α → List Value} {s : Nat} {E : TypeId} {w : World} {base : Nat} {A : Option Addr} {n c : Nat} {l : List α} (h : Owned e s E w base A n c l) : n ≤ c ∧ c ≤ 9223372036854775807 := by
  rcases h.2.2.2 with ⟨hv, h0⟩ | ⟨g, cap, cur, hv, _, _, hnc, hcap, _, _⟩
  · injection hv with _ _ e3
    subst e3 h0
    exact ⟨Nat.le_refl _, by omega⟩
  · injection hv with _ _ e3
    subst e3
    exact ⟨hnc, by unfold maxLen at hcap; omega⟩
theorem spec_l1OwnS {A : Option Addr} {N c : Nat} {l : List ByteArray} {w : World} (hN : l.length = N) (h : Strs w A l) (hz : N ≤ 16000000) :
    Calls Tryz.prog 44 #[.slice A N c] w fun e w' => ∃ A' c', e = .returned (.slice A' N c') ∧ Owned strE 1 9 w' w.heap.size A' N c' l ∧ Below w.heap.size w w' := by
  go_in
  go_wp2_with (first | (at_builtin; go_must ((refine wpList_append_recs Tryz.elStr strE_one rfl (.tmp 3) (.tmp 4) rfl rfl (Owned.empty (E := 9) strE_len w (Nat.le_refl _)) rfl (h.up (by (repeat' (first | (with_reducible exact Below.refl _ _) | (with_reducible assumption) | (with_reducible refine below_drewN ?_ _) | (with_reducible refine Below.drew ?_) | (with_reducible refine below_alloc ?_ _) | (with_reducible refine Below.alloc ?_ ?_ _) | (with_reducible refine Below.setCell ?_ ?_ _) | (with_reducible refine below_go ?_ (by with_reducible assumption)) | (with_reducible refine below_then (by with_reducible assumption) ?_ ?_) | go_size)))) hN ?_ (by decide) ?_ ?_; (focus (first | omega | (simp only [World.size_alloc]; done) | (simp only [World.size_alloc]; omega) | (simp; done) | (simp; omega))); (focus (first | omega | (simp only [World.size_alloc]; done) | (simp only [World.size_alloc]; omega) | (simp; done) | (simp; omega))); intro A2 c2 w2 ho2 hg2 hl2))))
  go_ret
  have hb := lit_app hg2
  rw [Nat.zero_add, List.nil_append] at ho2
  exact ⟨_, _, rfl, ho2, hb⟩
/-- Where x[1:] begins. -/
def tailOff (o s c : Nat) : Nat := if c = 1 then o else o + s
theorem Tryz.tailStrs (b o n c : Nat) (h1 : 1 ≤ n) (u : World) : (Instr.slice 22 (.slice (some ⟨b, o, none⟩) n c) (some (.int .i64 1)) none none).run Tryz.prog u = .ok (.slice (some ⟨b, tailOff o 1 c, none⟩) (n - 1) (c - 1)) u := by
  have e1 : Tryz.prog.underlying 22 = some (.slice (Tryz.prog.elem 22)) := by kernel_rfl
  have e2 : (sizeOf (Tryz.prog.elem 22)).run Tryz.prog u = .ok 1 u := by kernel_rfl
  rw [run_slice_l (P := Tryz.prog) (w := u) 22 (some ⟨b, o, none⟩) n c e1 .i64 1 (by omega) (by omega), e2]
  simp only [Result.andThen_ok, sliced, tailOff]
  by_cases hc : c = 1
  · rw [if_pos hc, if_pos (by omega)]; rfl
  · rw [if_neg hc, if_neg (by omega)]; rfl
theorem Recs.tail {α : Type} {e : α → List Value} {s : Nat} {w : World} {b o n c : Nat} {x : α} {l : List α} (h : Recs e s w (some ⟨b, o, none⟩) (x :: l)) (hn : l.length + 1 = n) (hc : n ≤ c) : Recs e s w (some ⟨b, tailOff o s c, none⟩) l := by
  by_cases h1 : c = 1
  · have : l = [] := List.eq_nil_of_length_eq_zero (by omega)
    subst this
    exact ⟨h.1, Rd.none_ _ _ _⟩
  · rw [tailOff, if_neg h1]
    have := h.part 1 (l.length + 1) (by omega) (by simp)
    rw [Nat.one_mul, List.drop_succ_cons, List.drop_zero, Nat.add_sub_cancel, List.take_of_length_le (Nat.le_refl _)] at this
    exact this
def slLen : Value → Nat
  | .slice _ n _ => n
  | _ => 0
theorem merge_left {x y : ByteArray} {a b : List ByteArray} (h : less y x = false) : List.merge (x :: a) (y :: b) leS = x :: List.merge a (y :: b) leS := by
  rw [List.cons_merge_cons_pos leS a b (by simp [leS, h])]
theorem merge_right {x y : ByteArray} {a b : List ByteArray} (h : less y x = true) : List.merge (x :: a) (y :: b) leS = y :: List.merge (x :: a) b leS := by
  rw [List.cons_merge_cons_neg leS a b (by simp [leS, h])]
set_option maxHeartbeats 2000000 in
set_option maxRecDepth 100000 in
theorem spec_l6Sort : ∀ (N : Nat) (A : Option Addr) (c : Nat) (l : List ByteArray) (w : World), l.length = N → Strs w A l → N ≤ 16000000 → (∀ s ∈ l, s.size ≤ 16777216) →
    Calls Tryz.prog 22 #[.slice A N c] w fun e w' => ∃ A' c' L, e = .returned (.slice A' N c') ∧ Owned strE 1 9 w' w.heap.size A' N c' L ∧ L.Perm l ∧ Srt L ∧ Below w.heap.size w w' := by
  intro N
  induction N using Nat.strongRecOn with
  | ind N ih =>
    intro A c l w hN h hz hs
    have HS := Lib.hid hs
    have IH := Lib.hid ih
    clear hs ih
    by_cases h2 : N < 2
    · have hsrt : Srt l := by
        match l, hN with
        | [], _ => exact List.Pairwise.nil
        | [x], _ => exact List.pairwise_singleton _ _
        | x :: y :: r, e => simp at e; omega
      go_in
      go_wp2_with fail
      refine (spec_l1OwnS hN h hz).mono ?_; rintro e w1 ⟨A1, c1, rfl, ho, hb1⟩
      go_wp2
      go_ret
      exact ⟨_, _, l, rfl, ho, List.Perm.refl _, hsrt, hb1⟩
    · subst hN
      obtain ⟨m, hm⟩ : ∃ m, m = l.length / 2 := ⟨_, rfl⟩
      have hm1 : 1 ≤ m := by omega
      have hm2 : m < l.length := by omega
      go_in
      go_wp2_with fail
      refine (spec_l1OwnS rfl h hz).mono ?_; rintro e w1 ⟨A1, c1, rfl, ho, hb1⟩
      obtain ⟨g, rfl, g0, g1, _, _⟩ := ho.at_ (by omega)
      go_wp2
      have hR := ho.recs
      have R1 : Hid (Strs w1.drew (some ⟨g, 0, none⟩) (l.take m)) := Lib.hid (by have := (hR.part 0 m (Nat.zero_le _) (by omega)).drew; simpa using this)
      have R2 : Hid (Strs w1 (some ⟨g, m, none⟩) (l.drop m)) := Lib.hid (by have := hR.part m l.length (by omega) (Nat.le_refl _); rw [Nat.mul_one, Nat.zero_add, List.take_of_length_le (by rw [List.length_drop]; omega)] at this; exact this)
      have T1 := Lib.hid (show (l.take m).length = m by rw [List.length_take]; omega)
      have T2 := Lib.hid (show (l.drop m).length = l.length - m by rw [List.length_drop])
      have hq : ((l.length : Int)).tdiv 2 = (m : Int) := by rw [Int.tdiv_eq_ediv_of_nonneg (by omega)]; omega
      have hw : IntKind.i64.wrap (m : Int) = (m : Int) := wrap_id (by omega)
      obtain ⟨hc1, hc2⟩ := ho.cap
      have hw2 : wrap64 (m : Int) = (m : Int) := by unfold wrap64; omega
      have hq2 : (l.length : Int) / 2 = (m : Int) := by omega
      have hle1 : (m : Int) ≤ (c1 : Int) := by omega
      have hle2 : (m : Int) ≤ (l.length : Int) := by omega
      have hle3 : (l.length : Int) ≤ (c1 : Int) := by omega
      have hne : ¬ c1 = m := by omega
      have hne2 : ¬ c1 - m = 0 := by omega
      clear hm
      go_region_held3 (fun u => True) (first | trivial) (first | (go_at_call 22; ((with_reducible refine (IH.out (l.length - m) (by omega) (some ⟨g, m, none⟩) (c1 - m) (l.drop m) _ T2.out (R2.out.up hb2) (by omega) (fun s hs => HS.out s (List.mem_of_mem_drop hs))).mono ?_); rintro e w3 ⟨A3, c3, L3, rfl, o3, p3, s3, hb3⟩)) | (go_at_call 22; refine (IH.out m (by omega) (some ⟨g, 0, none⟩) c1 (l.take m) _ T1.out R1.out (by omega) (fun s hs => HS.out s (List.mem_of_mem_take hs))).mono ?_; rintro e w2 ⟨A2, c2, L2, rfl, o2, p2, s2, hbd2⟩; have hb2 := below_of_drew hbd2))
      clear hw hw2 hq hq2
      have HM := Lib.hid (show (List.merge L2 L3 leS).Perm l from (merge_perm L2 L3).trans ((p2.append p3).trans (by rw [List.take_append_drop])))
      have HR := Lib.hid (merge_srt s2 s3)
      have o2' := o2.up hb3
      obtain ⟨c21, c22⟩ := o2.cap
      obtain ⟨c31, c32⟩ := o3.cap
      have hB3 := (below_go hb1 hb2)
      have hB3 := below_go hB3 hb3
      clear hbd2 p2 p3 s2 s3
      go_wp2
      go_loopw [4, 5, 6] (fun va vb vc wr => ∃ (Aa : Option Addr) (na ca : Nat) (la : List ByteArray) (Ab : Option Addr) (nb cb : Nat) (lb : List ByteArray) (A' : Option Addr) (m' c' : Nat) (M : List ByteArray), va = .slice Aa na ca ∧ vb = .slice Ab nb cb ∧ vc = .slice A' m' c' ∧ na ≤ ca ∧ nb ≤ cb ∧ ca ≤ 9223372036854775807 ∧ cb ≤ 9223372036854775807 ∧ m' + na + nb = l.length ∧ Hid (la.length = na) ∧ Hid (lb.length = nb) ∧ Hid (Strs w3 Aa la) ∧ Hid (Strs w3 Ab lb) ∧ Hid (Owned strE 1 9 wr w3.heap.size A' m' c' M) ∧ Hid (M ++ List.merge la lb leS = List.merge L2 L3 leS) ∧ Below w3.heap.size w3 wr) (fun va vb _ _ => slLen va + slLen vb)
      case atStart => exact ⟨_, m, c2, L2, _, l.length - m, c3, L3, none, 0, 0, [], rfl, rfl, rfl, by omega, by omega, by omega, by omega, by omega, Lib.hid o2.len, Lib.hid o3.len, Lib.hid o2'.recs, Lib.hid o3.recs, Lib.hid (Owned.nil strE_len _ _ _), Lib.hid (by simp), Below.refl _ _⟩
      case round =>
        obtain ⟨Aa, na, ca, la, Ab, nb, cb, lb, A', m', c', M, rfl, rfl, rfl, hna, hnb, hca, hcb, hsum, HLa, HLb, HA, HB, HO, HQ, hb⟩ := hrel
        have hsz := hb.size
        by_cases ha0 : na = 0
        · have HF := Lib.hid (show M ++ la ++ lb = List.merge L2 L3 leS by
            have : la = [] := List.eq_nil_of_length_eq_zero (by rw [HLa.out]; exact ha0)
            rw [← HQ.out, this, List.append_nil]; simp)
          have HS2 := Lib.hid hsum
          have hbd : m' + na + nb ≤ 16000000 := by omega
          have hI : ¬ (0 : Int) < (na : Int) := by omega
          clear ha0 hsum
          go_wp2_with (first | (at_builtin; ((refine wpList_append_recs Tryz.elStr strE_one rfl (.tmp 56) (.tmp 57) rfl rfl HO.out rfl (HA.out.below hb (Nat.le_refl _)) HLa.out ?_ (by decide) ?_ ?_; (focus (first | omega | (simp only [World.size_alloc]; done) | (simp only [World.size_alloc]; omega) | (simp; done) | (simp; omega))); (focus (first | omega | (simp only [World.size_alloc]; done) | (simp only [World.size_alloc]; omega) | (simp; done) | (simp; omega))); intro A4 c4 w4 ho4 hg4 hl4; have hb4 := hb.trans (grown_base hg4 hsz (fun k hk => (HO.out.blk hk).1)); have hsz4 := hb4.size))) | (at_builtin; go_must ((refine wpList_append_recs Tryz.elStr strE_one rfl (.tmp 58) (.tmp 59) rfl rfl ho4 rfl (HB.out.below hb4 (Nat.le_refl _)) HLb.out ?_ (by decide) ?_ ?_; (focus (first | omega | (simp only [World.size_alloc]; done) | (simp only [World.size_alloc]; omega) | (simp; done) | (simp; omega))); (focus (first | omega | (simp only [World.size_alloc]; done) | (simp only [World.size_alloc]; omega) | (simp; done) | (simp; omega))); intro A5 c5 w5 ho5 hg5 hl5))))
          have hb5 := hb4.trans (grown_base hg5 hsz4 (fun k hk => (ho4.blk hk).1))
          go_ret
          rw [HF.out, HS2.out] at ho5
          rw [HS2.out]
          exact ⟨_, _, rfl, _, ho5.base_le hB3.size, HM.out, HR.out, below_go hB3 hb5⟩
        · by_cases hb0 : nb = 0
          · have HF := Lib.hid (show M ++ la ++ lb = List.merge L2 L3 leS by
              have : lb = [] := List.eq_nil_of_length_eq_zero (by rw [HLb.out]; exact hb0)
              rw [← HQ.out, this, List.append_nil]; simp)
            have HS2 := Lib.hid hsum
            have hbd : m' + na + nb ≤ 16000000 := by omega
            have hI : (0 : Int) < (na : Int) := by omega
            have hJ : ¬ (0 : Int) < (nb : Int) := by omega
            clear ha0 hb0 hsum
            go_wp2_with (first | (at_builtin; ((refine wpList_append_recs Tryz.elStr strE_one rfl (.tmp 56) (.tmp 57) rfl rfl HO.out rfl (HA.out.below hb (Nat.le_refl _)) HLa.out ?_ (by decide) ?_ ?_; (focus (first | omega | (simp only [World.size_alloc]; done) | (simp only [World.size_alloc]; omega) | (simp; done) | (simp; omega))); (focus (first | omega | (simp only [World.size_alloc]; done) | (simp only [World.size_alloc]; omega) | (simp; done) | (simp; omega))); intro A4 c4 w4 ho4 hg4 hl4; have hb4 := hb.trans (grown_base hg4 hsz (fun k hk => (HO.out.blk hk).1)); have hsz4 := hb4.size))) | (at_builtin; go_must ((refine wpList_append_recs Tryz.elStr strE_one rfl (.tmp 58) (.tmp 59) rfl rfl ho4 rfl (HB.out.below hb4 (Nat.le_refl _)) HLb.out ?_ (by decide) ?_ ?_; (focus (first | omega | (simp only [World.size_alloc]; done) | (simp only [World.size_alloc]; omega) | (simp; done) | (simp; omega))); (focus (first | omega | (simp only [World.size_alloc]; done) | (simp only [World.size_alloc]; omega) | (simp; done) | (simp; omega))); intro A5 c5 w5 ho5 hg5 hl5))))
            have hb5 := hb4.trans (grown_base hg5 hsz4 (fun k hk => (ho4.blk hk).1))
            go_ret
            rw [HF.out, HS2.out] at ho5
            rw [HS2.out]
            exact ⟨_, _, rfl, _, ho5.base_le hB3.size, HM.out, HR.out, below_go hB3 hb5⟩
          · obtain ⟨x, la', hla⟩ : ∃ x la', la = x :: la' := by
              rcases la with _ | ⟨x, la'⟩
              · exact absurd HLa.out.symm ha0
              · exact ⟨x, la', rfl⟩
            obtain ⟨y, lb', hlb⟩ : ∃ y lb', lb = y :: lb' := by
              rcases lb with _ | ⟨y, lb'⟩
              · exact absurd HLb.out.symm hb0
              · exact ⟨y, lb', rfl⟩
            subst hla hlb
            obtain ⟨b1, o1, _, rfl, bb1, hx, hcx⟩ := (HA.out.below hb (Nat.le_refl _)).at_str (k := 0) (by simp)
            obtain ⟨b2, o2, _, rfl, bb2, hy, hcy⟩ := (HB.out.below hb (Nat.le_refl _)).at_str (k := 0) (by simp)
            simp at hx hy
            subst hx hy
            simp only [Nat.add_zero] at hcx hcy
            have t1 := Tryz.tailStrs b1 o1 na ca (by omega)
            have t2 := Tryz.tailStrs b2 o2 nb cb (by omega)
            rcases hl : less y x
            · have hl1 : Op.bytesLess y.toList x.toList = false := hl
              have hq1 := Lib.hid (merge_left (a := la') (b := lb') hl)
              clear hl t2
              go_wp2
              go_quiet (fail)
              go_wp2_with (first | (at_builtin; go_must ((refine wpList_append_rec Tryz.elStr rfl (.tmp 48) (.tmp 52) rfl rfl ((HO.out.drewN _).alloc _) x rfl (Box.at_ _ [.string x] _ ?_) (strE_one _) ?_ (by decide) ?_ ?_; (focus (first | omega | (simp only [World.size_alloc]; done) | (simp only [World.size_alloc]; omega) | (simp; done) | (simp; omega))); (focus (first | omega | (simp only [World.size_alloc]; done) | (simp only [World.size_alloc]; omega) | (simp; done) | (simp; omega))); (focus (first | omega | (simp only [World.size_alloc]; done) | (simp only [World.size_alloc]; omega) | (simp; done) | (simp; omega))); intro A4 c4 w4 ho4 hg4 hb4))))
              go_roundw
              case rel => exact ⟨some ⟨b1, tailOff o1 1 ca, none⟩, na - 1, ca - 1, la', some ⟨b2, o2, none⟩, nb, cb, y :: lb', A4, m' + 1, c4, M ++ [x], rfl, rfl, rfl, by omega, by omega, by omega, by omega, by omega, Lib.hid (by have := HLa.out; simp at this; omega), HLb, Lib.hid (HA.out.tail (by have := HLa.out; simpa using this) hna), HB, Lib.hid ho4, Lib.hid (by rw [← HQ.out, hq1.out, List.append_assoc]; rfl), ((below_drewN hb _).alloc (by simp; omega) _).trans hb4⟩
              case measure => simp [slLen]; omega
            · have hl1 : Op.bytesLess y.toList x.toList = true := hl
              have hq1 := Lib.hid (merge_right (a := la') (b := lb') hl)
              clear hl t1
              go_wp2
              go_quiet (fail)
              go_wp2_with (first | (at_builtin; go_must ((refine wpList_append_rec Tryz.elStr rfl (.tmp 40) (.tmp 44) rfl rfl ((HO.out.drewN _).alloc _) y rfl (Box.at_ _ [.string y] _ ?_) (strE_one _) ?_ (by decide) ?_ ?_; (focus (first | omega | (simp only [World.size_alloc]; done) | (simp only [World.size_alloc]; omega) | (simp; done) | (simp; omega))); (focus (first | omega | (simp only [World.size_alloc]; done) | (simp only [World.size_alloc]; omega) | (simp; done) | (simp; omega))); (focus (first | omega | (simp only [World.size_alloc]; done) | (simp only [World.size_alloc]; omega) | (simp; done) | (simp; omega))); intro A4 c4 w4 ho4 hg4 hb4))))
              go_roundw
              case rel => exact ⟨some ⟨b1, o1, none⟩, na, ca, x :: la', some ⟨b2, tailOff o2 1 cb, none⟩, nb - 1, cb - 1, lb', A4, m' + 1, c4, M ++ [y], rfl, rfl, rfl, by omega, by omega, by omega, by omega, by omega, HLa, Lib.hid (by have := HLb.out; simp at this; omega), HA, Lib.hid (HB.out.tail (by have := HLb.out; simpa using this) hnb), Lib.hid ho4, Lib.hid (by rw [← HQ.out, hq1.out, List.append_assoc]; rfl), ((below_drewN hb _).alloc (by simp; omega) _).trans hb4⟩
              case measure => simp [slLen]; omega
end Go.Proofs.YtoheahbkopbmhaaGreat
/- The walks through called leads and their heads, both sides. -/
namespace Go.Proofs.YtoheahbkopbmhaaGreat
set_option linter.unusedVariables false
set_option linter.unusedSimpArgs false
open Go.ChangeShapes Go.WideShapes Go.ChangeAt Go.RowKit Go.Deep
theorem lit_app_drew {w w' : World} {o : Obj} {n c : Nat} (hg : (w.alloc o).drew.grownBy w' (Value.slice (some ⟨w.heap.size, 0, none⟩) n c).ownBlock) : Below w.heap.size w w' :=
  (((Below.refl _ _).alloc (Nat.le_refl _) _).drew).trans (grown_base hg (by simp) (fun k hk => by injection hk with hk; dsimp only at hk; omega))
theorem lit_app_drew2 {w w' : World} {o o' : Obj} {n c : Nat} (hg : ((w.alloc o).alloc o').drew.grownBy w' (Value.slice (some ⟨w.heap.size, 0, none⟩) n c).ownBlock) : Below w.heap.size w w' :=
  ((((Below.refl _ _).alloc (Nat.le_refl _) _).alloc (by simp) _).drew).trans (grown_base hg (by simp; omega) (fun k hk => by injection hk with hk; dsimp only at hk; omega))
theorem lit_app_drew3 {w w' : World} {o o' : Obj} {n c : Nat} (hg : ((w.alloc o).alloc o').drew.grownBy w' (Value.slice (some ⟨w.heap.size + 1, 0, none⟩) n c).ownBlock) : Below w.heap.size w w' :=
  ((((Below.refl _ _).alloc (Nat.le_refl _) _).alloc (by simp) _).drew).trans (grown_base hg (by simp; omega) (fun k hk => by injection hk with hk; dsimp only at hk; omega))
theorem impl_withChanges {A : Option Addr} {n c : Nat} {nm : ByteArray} {st : Int} {w : World} {B : Option Addr} {m d : Nat} :
    Calls Tryz.prog 89 #[.agg #[.string nm, .int .i64 st, .slice A n c], .slice B m d] w fun e w' => e = .returned (.agg #[.string nm, .int .i64 st, .slice B m d]) ∧ Below w.heap.size w w' := by
  go_in
  go_wp2
  refine bodyPost_ret (v := .agg #[.string nm, .int .i64 st, .slice B m d]) (by simp [results, Tryz.results89, go_sem]) rfl ?_
  exact ⟨rfl, by (repeat' (first | (with_reducible exact Below.refl _ _) | (with_reducible assumption) | (with_reducible refine below_drewN ?_ _) | (with_reducible refine Below.drew ?_) | (with_reducible refine below_alloc ?_ _) | (with_reducible refine Below.alloc ?_ ?_ _) | (with_reducible refine Below.setCell ?_ ?_ _) | (with_reducible refine below_go ?_ (by with_reducible assumption)) | (with_reducible refine below_then (by with_reducible assumption) ?_ ?_) | go_size))⟩
theorem Owned.ne_blk {α : Type} {e : α → List Value} {s : Nat} {E : TypeId} {w : World} {base : Nat} {A : Option Addr} {n c : Nat} {l : List α} {p : Nat} {t : TypeId} {cs : List Value} (h : Owned e s E w base A n c l) (k : Blk w p t cs) (hE : E ≠ t) : ∀ q, (Value.slice A n c).ownBlock = some q → q ≠ p := by
  intro q hq e2
  rcases h.2.2.2 with ⟨hv, _⟩ | ⟨g, cap, cur, hv, _, hh, _⟩
  · rw [hv] at hq; cases hq
  · rw [hv] at hq
    injection hq with hq
    dsimp only at hq
    subst hq; subst e2
    unfold Blk at k
    rw [hh] at k
    injection k with k
    injection k with _ e3 _
    exact hE e3
theorem lead_fin {w0 w3 : World} {p base : Nat} {A2 : Option Addr} {n c2 : Nat} {l : List ByteArray} {nm : ByteArray} {st : Int} (KZ : Blk w3 p 34 [.string { data := #[] }, .int .i64 0, .slice none 0 0]) (ho : Owned strE 1 9 w3 base A2 n c2 l) (C3 : Below w0.heap.size w0 w3) (hp : w0.heap.size ≤ p) :
    Blk (((w3.setCell ⟨p, 0, none⟩ (.string nm)).setCell ⟨p, 1, none⟩ (.int .i64 st)).setCell ⟨p, 2, none⟩ (.slice A2 n c2)) p 34 [.string nm, .int .i64 st, .slice A2 n c2] ∧
      Owned strE 1 9 (((w3.setCell ⟨p, 0, none⟩ (.string nm)).setCell ⟨p, 1, none⟩ (.int .i64 st)).setCell ⟨p, 2, none⟩ (.slice A2 n c2)) base A2 n c2 l ∧
      Below w0.heap.size w0 (((w3.setCell ⟨p, 0, none⟩ (.string nm)).setCell ⟨p, 1, none⟩ (.int .i64 st)).setCell ⟨p, 2, none⟩ (.slice A2 n c2)) := by
  have hne := ho.ne_blk KZ (by decide)
  have g : w3.grownBy (((w3.setCell ⟨p, 0, none⟩ (.string nm)).setCell ⟨p, 1, none⟩ (.int .i64 st)).setCell ⟨p, 2, none⟩ (.slice A2 n c2)) (some p) :=
    grownBy_trans (grownBy_trans (only_set w3 (p := ⟨p, 0, none⟩) _) (only_set _ (p := ⟨p, 1, none⟩) _)) (only_set _ (p := ⟨p, 2, none⟩) _)
  exact ⟨((KZ.set_ 0 _).set_ 1 _).set_ 2 _, ho.kept g (fun k hk e => hne k hk (by injection e with e; exact e.symm)), ((C3.setCell (p := ⟨p, 0, none⟩) hp _).setCell (p := ⟨p, 1, none⟩) hp _).setCell (p := ⟨p, 2, none⟩) hp _⟩
set_option maxHeartbeats 1000000 in
set_option maxRecDepth 100000 in
theorem impl_calledLead {A : Option Addr} {n c : Nat} {nm : ByteArray} {st : Int} {l : List ByteArray} {kb ks : ByteArray} {s : ByteArray} {w : World} (hn : l.length = n) (h : Strs w A l) (hz : n ≤ 1048576) (hs : ∀ s ∈ l, s.size ≤ 16777216) (hnm : nm.size ≤ 16777216) (hst : I64 st) (h0 : 0 < n) :
    Calls Tryz.prog 69 #[.agg #[.string nm, .int .i64 st, .slice A n c], .agg #[.string kb, .string ks], .string s] w fun e w' => ∃ A' c', e = .returned (.agg #[.string nm, .int .i64 st, .slice A' n c']) ∧ Owned strE 1 9 w' w.heap.size A' n c' (l.set (n - 1) (chOf l kb ks s)) ∧ Below w.heap.size w w' := by
  obtain ⟨m, rfl⟩ : ∃ m, n = m + 1 := ⟨n - 1, by omega⟩
  have HN := Lib.hid hn
  clear hn
  have b0 : Below w.heap.size w (((w.alloc (.cells ⟨[.string nm, .int .i64 st, .slice A (m + 1) c]⟩ 34)).alloc (.cells ⟨[.string kb, .string ks]⟩ 36)).alloc (.cells ⟨[.string { data := #[] }, .int .i64 0, .slice none 0 0]⟩ 34)) := by (repeat' (first | (with_reducible exact Below.refl _ _) | (with_reducible assumption) | (with_reducible refine below_drewN ?_ _) | (with_reducible refine Below.drew ?_) | (with_reducible refine below_alloc ?_ _) | (with_reducible refine Below.alloc ?_ ?_ _) | (with_reducible refine Below.setCell ?_ ?_ _) | (with_reducible refine below_go ?_ (by with_reducible assumption)) | (with_reducible refine below_then (by with_reducible assumption) ?_ ?_) | go_size))
  have K0 := ((Blk.at_ w 34 [.string nm, .int .i64 st, .slice A (m + 1) c] (b := w.heap.size) rfl).alloc (.cells ⟨[.string kb, .string ks]⟩ 36)).alloc (.cells ⟨[.string { data := #[] }, .int .i64 0, .slice none 0 0]⟩ 34)
  have K1 := (Blk.at_ (w.alloc (.cells ⟨[.string nm, .int .i64 st, .slice A (m + 1) c]⟩ 34)) 36 [.string kb, .string ks] (b := w.heap.size + 1) (by simp)).alloc (.cells ⟨[.string { data := #[] }, .int .i64 0, .slice none 0 0]⟩ 34)
  have K2 := Blk.at_ ((w.alloc (.cells ⟨[.string nm, .int .i64 st, .slice A (m + 1) c]⟩ 34)).alloc (.cells ⟨[.string kb, .string ks]⟩ 36)) 34 [.string { data := #[] }, .int .i64 0, .slice none 0 0] (b := w.heap.size + 1 + 1) (by simp)
  go_in
  go_upto_region 1 with fail
  obtain ⟨w0, hw0⟩ : ∃ u, u = (((w.alloc (.cells #[.string nm, .int .i64 st, .slice A (m + 1) c] 34)).alloc (.cells #[.string kb, .string ks] 36)).alloc (.cells #[.string { data := #[] }, .int .i64 0, .slice none 0 0] 34)) := ⟨_, rfl⟩
  have sz0 : w0.heap.size = w.heap.size + 1 + 1 + 1 := by rw [hw0]; simp
  have sz0' : w0.heap.size ≤ w.heap.size + 3 := by omega
  have sz0'' : w.heap.size + 3 ≤ w0.heap.size := by omega
  rw [← hw0] at b0 K0 K1 K2 ⊢
  clear hw0 sz0
  have carry : Hid (∀ u : World, Below w0.heap.size w0 u → u.cell? ⟨w.heap.size, 0, none⟩ = some (.string nm) ∧ u.cell? ⟨w.heap.size, 1, none⟩ = some (.int .i64 st) ∧ u.cell? ⟨w.heap.size, 2, none⟩ = some (.slice A (m + 1) c)) := Lib.hid (fun u hu => by
    have L0 := K0.up hu
    exact ⟨by simpa using L0.cell 0, by simpa using L0.cell 1, by simpa using L0.cell 2⟩)
  have hr := Lib.hid (h.up b0)
  have HOV : Hid (Owned strE 1 9 ((w0.alloc (.cells #[.string { data := #[] }, .int .i64 0, .slice none 0 0] 34)).alloc (.cells #[] 9)) w0.heap.size (some ⟨w0.heap.size + 1, 0, none⟩) 0 0 ([] : List ByteArray)) := Lib.hid (by have q := Owned.empty (E := 9) strE_len (w0.alloc (.cells #[.string { data := #[] }, .int .i64 0, .slice none 0 0] 34)) (base := w0.heap.size) (by simp); simpa using q)
  go_cut [7] (fun s7 wx => ∃ (p : Nat) (A2 : Option Addr) (c2 : Nat), s7 = .pointer (some ⟨p, 0, none⟩) ∧ w0.heap.size ≤ p ∧ Blk wx p 34 [.string nm, .int .i64 st, .slice A2 (m + 1) c2] ∧ Owned strE 1 9 wx w0.heap.size A2 (m + 1) c2 l ∧ Below w0.heap.size w0 wx)
  case first =>
    go_region_held3 (fun u => u.cell? ⟨w.heap.size, 0, none⟩ = some (.string nm) ∧ u.cell? ⟨w.heap.size, 1, none⟩ = some (.int .i64 st) ∧ u.cell? ⟨w.heap.size, 2, none⟩ = some (.slice A (m + 1) c)) (first | exact carry.out _ C3 | exact carry.out _ (C3.alloc C3.size _) | exact carry.out _ (((C3.setCell (p := ⟨w2.heap.size, 0, none⟩) C2.size _).setCell (p := ⟨w2.heap.size, 1, none⟩) C2.size _).setCell (p := ⟨w2.heap.size, 2, none⟩) C2.size _) | exact carry.out _ (((C3.setCell (p := ⟨w0.heap.size + 1, 0, none⟩) (Nat.le_succ _) _).setCell (p := ⟨w0.heap.size + 1, 1, none⟩) (Nat.le_succ _) _).setCell (p := ⟨w0.heap.size + 1, 2, none⟩) (Nat.le_succ _) _) | exact carry.out _ (((C3.setCell (p := ⟨w0.heap.size, 0, none⟩) (Nat.le_refl _) _).setCell (p := ⟨w0.heap.size, 1, none⟩) (Nat.le_refl _) _).setCell (p := ⟨w0.heap.size, 2, none⟩) (Nat.le_refl _) _) | exact carry.out _ ((((Below.refl _ _).alloc (Nat.le_refl _) _).alloc (by simp) _).drew) | exact carry.out _ C2 | exact carry.out _ (C2.alloc C2.size _) | exact carry.out _ (((Below.refl _ _).alloc (Nat.le_refl _) _).drew) | exact carry.out _ (Below.refl _ _).drew) (first | (go_at_call 89; refine impl_withChanges.mono ?_; rintro e w3 ⟨rfl, hb3⟩; have KZ := KZ2.up hb3; have C3 := C2.trans (hb3.mono C2.size); have z0 := KZ.cell 0; have z1 := KZ.cell 1; have z2 := KZ.cell 2; simp only [List.getElem?_cons_zero, List.getElem?_cons_succ] at z0 z1 z2; have f0 := KZ.frozen 0; have f1 := KZ.frozen 1; have f2 := KZ.frozen 2) | (go_at_call 89; refine impl_withChanges.mono ?_; rintro e w3 ⟨rfl, hb3⟩; have C3 := C2.trans (hb3.mono C2.size)) | (go_at_call 89; refine impl_withChanges.mono ?_; rintro e w3 ⟨rfl, hb3⟩; have C3 := (C2.alloc C2.size _).trans (hb3.mono (by simp; have := C2.size; omega)); have KZ := (Blk.at_ w2 34 [.string { data := #[] }, .int .i64 0, .slice none 0 0] (b := w2.heap.size) rfl).up hb3; have z0 := KZ.cell 0; have z1 := KZ.cell 1; have z2 := KZ.cell 2; simp only [List.getElem?_cons_zero, List.getElem?_cons_succ] at z0 z1 z2; have f0 := KZ.frozen 0; have f1 := KZ.frozen 1; have f2 := KZ.frozen 2) | (refine step_append_recs Tryz.elStr strE_one rfl (.tmp 10) (.tmp 12) rfl (by rfl) (Owned.empty (E := 9) strE_len w0 (Nat.le_refl _)).drew (by rfl) ((hr.out.alloc _).drew) HN.out ?_ (by decide) ?_ ?_; (focus (first | omega | (simp only [World.size_alloc]; done) | (simp only [World.size_alloc]; omega) | (simp; done) | (simp; omega))); (focus (first | omega | (simp only [World.size_alloc]; done) | (simp only [World.size_alloc]; omega) | (simp; done) | (simp; omega))); intro A2 c2 w2 ho2 hg2 hl2; have ho2' : Owned strE 1 9 w2 w0.heap.size A2 (m + 1) c2 l := (by simpa using ho2); have C2 := lit_app_drew hg2) | (refine step_append_recs Tryz.elStr strE_one rfl (.tmp 10) (.tmp 12) rfl (by rfl) ((Owned.empty (E := 9) strE_len w0 (Nat.le_refl _)).alloc (.cells #[.string { data := #[] }, .int .i64 0, .slice none 0 0] 34)).drew (by rfl) (((hr.out.alloc _).alloc _).drew) HN.out ?_ (by decide) ?_ ?_; (focus (first | omega | (simp only [World.size_alloc]; done) | (simp only [World.size_alloc]; omega) | (simp; done) | (simp; omega))); (focus (first | omega | (simp only [World.size_alloc]; done) | (simp only [World.size_alloc]; omega) | (simp; done) | (simp; omega))); intro A2 c2 w2 ho2 hg2 hl2; have ho2' : Owned strE 1 9 w2 w0.heap.size A2 (m + 1) c2 l := (by simpa using ho2); have C2 := lit_app_drew2 hg2; have KZ2 := ((Blk.at_ (w0.alloc (.cells #[] 9)) 34 [.string { data := #[] }, .int .i64 0, .slice none 0 0] (b := w0.heap.size + 1) (by simp)).drewN 1).grown hg2 (fun e => by injection e with e; dsimp only at e; omega)) | (refine step_append_recs Tryz.elStr strE_one rfl (.tmp 10) (.tmp 12) rfl (by rfl) (HOV.out).drew (by rfl) (((hr.out.alloc _).alloc _).drew) HN.out ?_ (by decide) ?_ ?_; (focus (first | omega | (simp only [World.size_alloc]; done) | (simp only [World.size_alloc]; omega) | (simp; done) | (simp; omega))); (focus (first | omega | (simp only [World.size_alloc]; done) | (simp only [World.size_alloc]; omega) | (simp; done) | (simp; omega))); intro A2 c2 w2 ho2 hg2 hl2; have ho2' : Owned strE 1 9 w2 w0.heap.size A2 (m + 1) c2 l := (by simpa using ho2); have C2 := lit_app_drew3 hg2; have KZ2 := (((Blk.at_ w0 34 [.string { data := #[] }, .int .i64 0, .slice none 0 0] (b := w0.heap.size) rfl).alloc (.cells #[] 9)).drewN 1).grown hg2 (fun e => by injection e with e; dsimp only at e; omega)))
    all_goals
      go_wp2_with fail
      go_meet
      refine ⟨_, A2, c2, rfl, ?_⟩
      first
        | with_reducible exact ⟨C2.size, lead_fin KZ ((ho2'.alloc _).up hb3) C3 C2.size⟩
        | with_reducible exact ⟨Nat.le_refl _, lead_fin KZ (ho2'.up hb3) C3 (Nat.le_refl _)⟩
        | with_reducible exact ⟨Nat.le_succ _, lead_fin KZ (ho2'.up hb3) C3 (Nat.le_succ _)⟩
        | with_reducible exact ⟨C3.size, Blk.at_ w3 34 [.string nm, .int .i64 st, .slice A2 (m + 1) c2] rfl, (ho2'.up hb3).alloc _, C3.alloc C3.size _⟩
  case rest =>
    obtain ⟨p, A2, c2, rfl, hp, K4, ho4, B4⟩ := hcut
    rename World => w4
    have L1 := K1.up B4; have L2 := K2.up B4
    have k0 := K4.cell 0; have k1 := K4.cell 1; have k2 := K4.cell 2
    have q0 := L1.cell 0; have q1 := L1.cell 1
    have r0 := L2.cell 0; have r1 := L2.cell 1; have r2 := L2.cell 2
    have t0 := L2.frozen 0; have t1 := L2.frozen 1; have t2 := L2.frozen 2
    simp only [List.getElem?_cons_zero, List.getElem?_cons_succ] at k0 k1 k2 q0 q1 r0 r1 r2
    obtain ⟨g, rfl, g0, g1, gc, gf⟩ := ho4.at_ h0
    obtain ⟨y, hy⟩ := some_of_lt (l := l) (k := m) (by rw [HN.out]; omega)
    have cy := gc m y 0 _ hy rfl
    have fy := gf m
    simp only [Nat.mul_one, Nat.add_zero] at cy
    have HY := Lib.hid hy
    clear gc gf hy
    have FO : Hid (∀ (u : World) (l' : List ByteArray) (a b d : Value), w4.heap.size ≤ u.heap.size → Owned strE 1 9 u w0.heap.size (some ⟨g, 0, none⟩) (m + 1) c2 l' → Below w.heap.size w u → Owned strE 1 9 (((u.setCell ⟨w.heap.size + 1 + 1, 0, none⟩ a).setCell ⟨w.heap.size + 1 + 1, 1, none⟩ b).setCell ⟨w.heap.size + 1 + 1, 2, none⟩ d) w.heap.size (some ⟨g, 0, none⟩) (m + 1) c2 l' ∧ Below w.heap.size w (((u.setCell ⟨w.heap.size + 1 + 1, 0, none⟩ a).setCell ⟨w.heap.size + 1 + 1, 1, none⟩ b).setCell ⟨w.heap.size + 1 + 1, 2, none⟩ d)) := Lib.hid (by
      intro u l' a b d hu ho hb
      have gg : u.grownBy (((u.setCell ⟨w.heap.size + 1 + 1, 0, none⟩ a).setCell ⟨w.heap.size + 1 + 1, 1, none⟩ b).setCell ⟨w.heap.size + 1 + 1, 2, none⟩ d) (some (w.heap.size + 1 + 1)) :=
        grownBy_trans (grownBy_trans (only_set u (p := ⟨w.heap.size + 1 + 1, 0, none⟩) _) (only_set _ (p := ⟨w.heap.size + 1 + 1, 1, none⟩) _)) (only_set _ (p := ⟨w.heap.size + 1 + 1, 2, none⟩) _)
      exact ⟨(ho.past gg (by omega)).base_le (by omega), hb.grown gg hb.size (fun k hk => by injection hk with hk; omega)⟩)
    have hBB := b0.trans (B4.mono b0.size)
    have hpg : ¬ p = g := fun e => ho4.ne_blk K4 (by decide) g rfl e.symm
    have hgp : ¬ g = p := fun e => hpg e.symm
    have PT := Lib.hid (fun (x : ByteArray) => ho4.put (j := 0) (x := x) (u := .string x) HY.out (by decide) rfl)
    rcases hB : isB s
    · rcases hS : isS s
      · have g2 : (s.toList == [98]) = false := hB
        have g3 : (s.toList == [115]) = false := hS
        have e1 := Lib.hid (show l.set m (chOf l kb ks s) = l by
          rw [chOf, hB, hS, if_neg (by simp), if_neg (by simp)]
          have h1 : lastC l = y := by rw [lastC, HN.out, Nat.add_sub_cancel, List.getD, HY.out]; rfl
          apply List.ext_getElem?
          intro q
          by_cases hq : q = m
          · subst hq; rw [List.getElem?_set_self (by rw [HN.out]; omega), h1, HY.out]
          · rw [List.getElem?_set_ne (fun e => hq e.symm)])
        clear hB hS
        go_wp2
        refine bodyPost_ret (v := .agg #[.string nm, .int .i64 st, .slice (some ⟨g, 0, none⟩) (m + 1) c2]) (by simp [results, Tryz.results69, go_sem, World.cell?_setCell_same, r0, r1, r2]) rfl ?_
        rw [Nat.add_sub_cancel, e1.out]
        exact ⟨_, _, rfl, FO.out _ _ _ _ _ (Nat.le_refl _) ho4 hBB⟩
      · have g2 : (s.toList == [98]) = false := hB
        have g3 : (s.toList == [115]) = true := hS
        have e1 := Lib.hid (show l.set m (chOf l kb ks s) = l.set m ks by rw [chOf, hB, hS, if_neg (by simp), if_pos rfl])
        have pt := PT.out ks
        simp only [Nat.mul_one, Nat.add_zero] at pt
        have PO := Lib.hid pt.1
        have PG := Lib.hid pt.2
        clear hB hS pt
        go_wp2
        refine bodyPost_ret (v := .agg #[.string nm, .int .i64 st, .slice (some ⟨g, 0, none⟩) (m + 1) c2]) (by simp [results, Tryz.results69, go_sem, World.cell?_setCell_same, r0, r1, r2]) rfl ?_
        rw [Nat.add_sub_cancel, e1.out]
        exact ⟨_, _, rfl, FO.out _ _ _ _ _ PG.out.size PO.out (hBB.grown PG.out hBB.size (fun k hk => by injection hk with hk; omega))⟩
    · have g2 : (s.toList == [98]) = true := hB
      have e1 := Lib.hid (show l.set m (chOf l kb ks s) = l.set m kb by rw [chOf, hB, if_pos rfl])
      have pt := PT.out kb
      simp only [Nat.mul_one, Nat.add_zero] at pt
      have PO := Lib.hid pt.1
      have PG := Lib.hid pt.2
      clear hB pt
      go_wp2
      refine bodyPost_ret (v := .agg #[.string nm, .int .i64 st, .slice (some ⟨g, 0, none⟩) (m + 1) c2]) (by simp [results, Tryz.results69, go_sem, World.cell?_setCell_same, r0, r1, r2]) rfl ?_
      rw [Nat.add_sub_cancel, e1.out]
      exact ⟨_, _, rfl, FO.out _ _ _ _ _ PG.out.size PO.out (hBB.grown PG.out hBB.size (fun k hk => by injection hk with hk; omega))⟩
end Go.Proofs.YtoheahbkopbmhaaGreat
/- The walks through lead heads of calls, both sides. -/
namespace Go.Proofs.YtoheahbkopbmhaaGreat
set_option linter.unusedVariables false
set_option linter.unusedSimpArgs false
open Go.ChangeShapes Go.WideShapes Go.ChangeAt Go.RowKit Go.Deep
theorem turnC {P : Program} {f : FuncId} {args : Array Value} {w : World} {v : Value} (h : Calls P f args w fun e w' => e = .returned v ∧ w = w') : Calls P f args w fun e w' => e = .returned v ∧ w' = w :=
  h.mono fun _ _ ⟨he, hw⟩ => ⟨he, hw.symm⟩
set_option maxRecDepth 100000 in
set_option maxHeartbeats 1000000 in
theorem impl_leadHead {A : Option Addr} {n c st : Nat} {nm : ByteArray} {l : List ByteArray} {w : World} (hn : l.length = n) (h : Strs w A l) (hz : n ≤ 1048576) (hs : ∀ s ∈ l, s.size ≤ 16777216) (h8 : st ≤ 8) (hg : ∀ s ∈ l, isDash s = true ∨ validD s = true) :
    Calls Tryz.prog 68 #[.agg #[.string nm, .int .i64 st, .slice A n c]] w fun e w' => e = .returned (.string (rAt (roundsS st) l n)) ∧ Below w.heap.size w w' := by
  have b0 : Below w.heap.size w (w.alloc (.cells ⟨[.string nm, .int .i64 st, .slice A n c]⟩ 34)) := by (repeat' (first | (with_reducible exact Below.refl _ _) | (with_reducible assumption) | (with_reducible refine below_drewN ?_ _) | (with_reducible refine Below.drew ?_) | (with_reducible refine below_alloc ?_ _) | (with_reducible refine Below.alloc ?_ ?_ _) | (with_reducible refine Below.setCell ?_ ?_ _) | (with_reducible refine below_go ?_ (by with_reducible assumption)) | (with_reducible refine below_then (by with_reducible assumption) ?_ ?_) | go_size))
  have hr8 : (roundsS st).size ≤ 8 := by rw [rounds_size st (by omega)]; exact h8
  have HG := Lib.hid hg
  have HS := Lib.hid hs
  clear hg hs
  have K0 := Blk.at_ w 34 [.string nm, .int .i64 st, .slice A n c] (b := w.heap.size) rfl
  go_in
  go_wp2
  obtain ⟨w0, hw0⟩ : ∃ u, u = (w.alloc (.cells #[.string nm, .int .i64 st, .slice A n c] 34)) := ⟨_, rfl⟩
  rw [← hw0] at b0 K0 ⊢
  clear hw0
  have k1 := K0.cell 1; have k2 := K0.cell 2
  simp only [List.getElem?_cons_zero, List.getElem?_cons_succ] at k1 k2
  refine wp_region_still_tail 5 (by kernel_rfl) (by kernel_rfl) ?_
  simp only [List.take_succ_cons, List.take_zero, List.drop_succ_cons, List.drop_zero]
  repeat still_step
  still_call (turnC (impl_rounds h8))
  repeat still_step
  refine wpStill_nil ?_
  change wpList _ _ _ _ _ w0.drew
  go_wp2_with fail
  refine (impl_rowsUnder hr8 hn (h.up b0).drew (by omega) HS.out HG.out).mono ?_; rintro e w1 ⟨A1, c1, rfl, ho, hbd⟩
  have hb1 := below_of_drew hbd
  obtain ⟨g, rfl, _, _, gc, _⟩ := ho.at_ (by omega)
  have hrow : (rowsL (roundsS st) l (n + 1))[n]? = some (rAt (roundsS st) l n) := by rw [rowsL, List.getElem?_map, List.getElem?_range (by omega)]; rfl
  have cg := gc n _ 0 _ hrow rfl
  simp only [Nat.mul_one, Nat.add_zero] at cg
  clear gc hrow
  go_wp2
  go_ret
  exact ⟨rfl, below_go b0 hb1⟩
theorem goodK_all {nm : ByteArray} {st : Nat} {l : List ByteArray} {kb ks : ByteArray} (h : goodK nm (st : Int) l kb ks = true) :
    (3 ≤ st ∧ st ≤ 8) ∧ (1 ≤ l.length ∧ l.length ≤ 40) ∧ (∀ c ∈ l, goodChange st c = true) ∧ goodChange st kb = true ∧ goodChange st ks = true := by
  obtain ⟨h1, h2, h3⟩ := goodK_t h
  obtain ⟨_, h5, h6, h7⟩ := goodM_t h1
  exact ⟨by omega, h6, allCh_mem h7, h2, h3⟩
theorem chOf_good {nm : ByteArray} {st : Nat} {l : List ByteArray} {kb ks : ByteArray} (h : goodK nm (st : Int) l kb ks = true) (s : ByteArray) : goodChange st (chOf l kb ks s) = true := by
  obtain ⟨_, h2, h3, h4, h5⟩ := goodK_all h
  rw [chOf]
  split
  · exact h4
  · split
    · exact h5
    · exact h3 _ (List.mem_of_getElem? (lastC_at (by omega)))
theorem set_good {nm : ByteArray} {st : Nat} {l : List ByteArray} {kb ks : ByteArray} (h : goodK nm (st : Int) l kb ks = true) (s : ByteArray) (k : Nat) : ∀ c ∈ l.set k (chOf l kb ks s), goodChange st c = true := by
  intro c hc
  rcases List.mem_or_eq_of_mem_set hc with hc | rfl
  · exact (goodK_all h).2.2.1 c hc
  · exact chOf_good h s
set_option maxHeartbeats 1000000 in
theorem impl_callHead {A : Option Addr} {n c st : Nat} {nm : ByteArray} {l : List ByteArray} {kb ks : ByteArray} {s : ByteArray} {w : World} (hn : l.length = n) (h : Strs w A l) (hk : goodK nm (st : Int) l kb ks = true) :
    Calls Tryz.prog 49 #[.agg #[.string nm, .int .i64 st, .slice A n c], .agg #[.string kb, .string ks], .string s] w fun e w' => e = .returned (.string (callHd st l kb ks s)) ∧ Below w.heap.size w w' := by
  obtain ⟨h8, h40, hgl, hgb, hgs⟩ := goodK_all hk
  have b0 : Below w.heap.size w ((w.alloc (.cells ⟨[.string nm, .int .i64 st, .slice A n c]⟩ 34)).alloc (.cells ⟨[.string kb, .string ks]⟩ 36)) := by (repeat' (first | (with_reducible exact Below.refl _ _) | (with_reducible assumption) | (with_reducible refine below_drewN ?_ _) | (with_reducible refine Below.drew ?_) | (with_reducible refine below_alloc ?_ _) | (with_reducible refine Below.alloc ?_ ?_ _) | (with_reducible refine Below.setCell ?_ ?_ _) | (with_reducible refine below_go ?_ (by with_reducible assumption)) | (with_reducible refine below_then (by with_reducible assumption) ?_ ?_) | go_size))
  have e1 := Lib.hid (show rAt (roundsS st) (l.set (n - 1) (chOf l kb ks s)) n = callHd st l kb ks s by
    subst hn
    exact headX_set (by omega))
  have SG := Lib.hid (set_good hk s (n - 1))
  have HS := Lib.hid (fun (s' : ByteArray) (hs' : s' ∈ l) => show s'.size ≤ 16777216 from by have := goodChange_small (hgl s' hs'); omega)
  have sk1 := goodChange_small hgb
  have sk2 := goodChange_small hgs
  have hn40 : n ≤ 40 := by omega
  have hn1 : 0 < n := by omega
  have hI : I64 (st : Int) := by unfold I64; omega
  have hnm : nm.size ≤ 16777216 := by
    have h1 := (goodM_t (goodK_t hk).1).1
    rw [nameOk, Bool.and_eq_true] at h1
    have := inB_t h1.2
    omega
  clear hgl hgb hgs h40
  go_in
  go_wp2_with fail
  refine (impl_calledLead hn (h.up b0) (by omega) HS.out hnm hI hn1).mono ?_; rintro e w1 ⟨A1, c1, rfl, ho, hb1⟩
  go_wp2_with fail
  refine (impl_leadHead ho.len ho.recs (by omega) (fun x hx => by have := goodChange_small (SG.out x hx); omega) h8.2 (fun x hx => good_valid (SG.out x hx))).mono ?_; rw [e1.out]; rintro e w2 ⟨rfl, hb2⟩
  go_wp2
  go_ret
  exact ⟨rfl, below_go (below_go b0 hb1) hb2⟩
theorem own_lit3 (w : World) (E : TypeId) (x y z : ByteArray) {base : Nat} (hb : base ≤ w.heap.size) : Owned strE 1 E (w.alloc (.cells #[.string x, .string y, .string z] E)) base (some ⟨w.heap.size, 0, none⟩) 3 3 [x, y, z] :=
  ⟨strE_len, rfl, by simpa [strE] using World.ownsRow_lit (e := E) (base := base) (size := 1) w #[.string x, .string y, .string z] 3 hb (by unfold maxLen; omega) (by simp)⟩
/-- The three heads. -/
def hds3 (st : Nat) (l : List ByteArray) (kb ks : ByteArray) : List ByteArray := [callHd st l kb ks ⟨#[112]⟩, callHd st l kb ks ⟨#[98]⟩, callHd st l kb ks ⟨#[115]⟩]
theorem callHd_good {nm : ByteArray} {st : Nat} {l : List ByteArray} {kb ks : ByteArray} (h : goodK nm (st : Int) l kb ks = true) (s : ByteArray) : goodRow (callHd st l kb ks s) = true ∧ (callHd st l kb ks s).size = st := by
  obtain ⟨h8, _⟩ := goodK_all h
  exact ⟨headX_good h8.1 h8.2 _ _, headX_size (by omega) _ _⟩
theorem hds3_good {nm : ByteArray} {st : Nat} {l : List ByteArray} {kb ks : ByteArray} (h : goodK nm (st : Int) l kb ks = true) : goodRows (hds3 st l kb ks) = true := by
  have a := callHd_good h ⟨#[112]⟩; have b := callHd_good h ⟨#[98]⟩; have c := callHd_good h ⟨#[115]⟩
  rw [goodRows, Bool.and_eq_true, List.all_eq_true]
  refine ⟨fun k hk => ?_, by simp [hds3]⟩
  have hk := List.mem_range.1 hk
  have h0 : (hds3 st l kb ks)[0]? = some (callHd st l kb ks ⟨#[112]⟩) := rfl
  match k, hk with
  | 0, _ => rw [okRow_at h0 h0, a.1]; simp
  | 1, _ => rw [okRow_at h0 (show (hds3 st l kb ks)[1]? = some (callHd st l kb ks ⟨#[98]⟩) from rfl), b.1, a.2, b.2]; simp
  | 2, _ => rw [okRow_at h0 (show (hds3 st l kb ks)[2]? = some (callHd st l kb ks ⟨#[115]⟩) from rfl), c.1, a.2, c.2]; simp
  | k + 3, hk => simp [hds3] at hk; omega
/-- The signs of the lead heads. -/
def lsOk (nm : ByteArray) (st : Int) (l : List ByteArray) (kb ks : ByteArray) : Bool := goodK nm st l kb ks
def lsR (nm : ByteArray) (st : Int) (l : List ByteArray) (kb ks : ByteArray) : List Bool := if goodK nm st l kb ks = true then (hds3 st.toNat l kb ks).map evenRow else []
theorem lsR_f {nm : ByteArray} {st : Int} {l : List ByteArray} {kb ks : ByteArray} (h : goodK nm st l kb ks = false) : lsR nm st l kb ks = [] := by rw [lsR, if_neg (by rw [h]; simp)]
theorem lsR_t {nm : ByteArray} {st : Nat} {l : List ByteArray} {kb ks : ByteArray} (h : goodK nm (st : Int) l kb ks = true) : lsR nm st l kb ks = (hds3 st l kb ks).map evenRow := by rw [lsR, if_pos h]; rfl
theorem lsR_len (nm : ByteArray) (st : Int) (l : List ByteArray) (kb ks : ByteArray) : (lsR nm st l kb ks).length ≤ 3 := by
  rw [lsR]; split <;> simp [hds3]
end Go.Proofs.YtoheahbkopbmhaaGreat
/- The walks through lead heads of calls and their signs, the reference's side. -/
namespace Go.Proofs.YtoheahbkopbmhaaGreat
set_option linter.unusedVariables false
set_option linter.unusedSimpArgs false
open Go.ChangeShapes Go.WideShapes Go.ChangeAt Go.RowKit Go.Deep
set_option maxHeartbeats 1000000 in
theorem spec_l8Change {A : Option Addr} {n c : Nat} {st : Int} {nm : ByteArray} {l : List ByteArray} {kb ks s : ByteArray} {w : World} (hn : l.length = n) (h : Strs w A l) (h0 : 0 < n) (hz : n ≤ 1048576) :
    Calls Tryz.prog 82 #[.agg #[.string nm, .int .i64 st, .slice A n c], .agg #[.string kb, .string ks], .string s] w fun e w' => e = .returned (.string (chOf l kb ks s)) ∧ Below w.heap.size w w' := by
  obtain ⟨m, rfl⟩ : ∃ m, n = m + 1 := ⟨n - 1, by omega⟩
  have HN := Lib.hid hn
  clear hn
  have b0 : Below w.heap.size w ((w.alloc (.cells ⟨[.string nm, .int .i64 st, .slice A (m + 1) c]⟩ 34)).alloc (.cells ⟨[.string kb, .string ks]⟩ 36)) := by (repeat' (first | (with_reducible exact Below.refl _ _) | (with_reducible assumption) | (with_reducible refine below_drewN ?_ _) | (with_reducible refine Below.drew ?_) | (with_reducible refine below_alloc ?_ _) | (with_reducible refine Below.alloc ?_ ?_ _) | (with_reducible refine Below.setCell ?_ ?_ _) | (with_reducible refine below_go ?_ (by with_reducible assumption)) | (with_reducible refine below_then (by with_reducible assumption) ?_ ?_) | go_size))
  obtain ⟨b, o, y, rfl, hbb, hy, hc⟩ := h.at_str (k := m) (by rw [HN.out]; omega)
  have hc1 := (b0.cell (p := ⟨b, o + m, none⟩) hbb).trans hc
  have hne : ¬ b = w.heap.size := by omega
  have hne2 : ¬ b = w.heap.size + 1 := by omega
  have EY := Lib.hid (show lastC l = y by rw [lastC, HN.out, Nat.add_sub_cancel, List.getD, hy]; rfl)
  clear hy
  rcases hB : isB s
  · rcases hS : isS s
    · have g2 : (s.toList == [98]) = false := hB
      have g3 : (s.toList == [115]) = false := hS
      have e1 := Lib.hid (show chOf l kb ks s = y by rw [chOf, hB, hS, if_neg (by simp), if_neg (by simp), EY.out])
      clear hB hS hc1
      go_in
      go_wp2
      go_ret
      rw [e1.out]
      exact ⟨rfl, b0⟩
    · have g2 : (s.toList == [98]) = false := hB
      have g3 : (s.toList == [115]) = true := hS
      have e1 := Lib.hid (show chOf l kb ks s = ks by rw [chOf, hB, hS, if_neg (by simp), if_pos rfl])
      clear hB hS hc1
      go_in
      go_wp2
      go_ret
      rw [e1.out]
      exact ⟨rfl, b0⟩
  · have g2 : (s.toList == [98]) = true := hB
    have e1 := Lib.hid (show chOf l kb ks s = kb by rw [chOf, hB, if_pos rfl])
    clear hB hc1
    go_in
    go_wp2
    go_ret
    rw [e1.out]
    exact ⟨rfl, b0⟩
set_option maxRecDepth 100000 in
set_option maxHeartbeats 1000000 in
theorem spec_l8Head {A : Option Addr} {n c st : Nat} {nm : ByteArray} {l : List ByteArray} {kb ks : ByteArray} {s : ByteArray} {w : World} (hn : l.length = n) (h : Strs w A l) (hk : goodK nm (st : Int) l kb ks = true) (hcap : n ≤ c) :
    Calls Tryz.prog 62 #[.agg #[.string nm, .int .i64 st, .slice A n c], .agg #[.string kb, .string ks], .string s] w fun e w' => e = .returned (.string (callHd st l kb ks s)) ∧ Below w.heap.size w w' := by
  obtain ⟨h8, h40, hgl, hgb, hgs⟩ := goodK_all hk
  obtain ⟨m, rfl⟩ : ∃ m, n = m + 1 := ⟨n - 1, by omega⟩
  have HN := Lib.hid hn
  have b0 : Below w.heap.size w ((w.alloc (.cells ⟨[.string nm, .int .i64 st, .slice A (m + 1) c]⟩ 34)).alloc (.cells ⟨[.string kb, .string ks]⟩ 36)) := by (repeat' (first | (with_reducible exact Below.refl _ _) | (with_reducible assumption) | (with_reducible refine below_drewN ?_ _) | (with_reducible refine Below.drew ?_) | (with_reducible refine below_alloc ?_ _) | (with_reducible refine Below.alloc ?_ ?_ _) | (with_reducible refine Below.setCell ?_ ?_ _) | (with_reducible refine below_go ?_ (by with_reducible assumption)) | (with_reducible refine below_then (by with_reducible assumption) ?_ ?_) | go_size))
  have K0 := (Blk.at_ w 34 [.string nm, .int .i64 st, .slice A (m + 1) c] (b := w.heap.size) rfl).alloc (.cells ⟨[.string kb, .string ks]⟩ 36)
  have K1 := Blk.at_ (w.alloc (.cells ⟨[.string nm, .int .i64 st, .slice A (m + 1) c]⟩ 34)) 36 [.string kb, .string ks] (b := w.heap.size + 1) (by simp)
  have HS := Lib.hid (fun (s' : ByteArray) (hs' : s' ∈ l.take m) => show s'.size ≤ 16777216 from by have := goodChange_small (hgl s' (List.mem_of_mem_take hs')); omega)
  have e1 := Lib.hid (show applyR (rAt (roundsS st) (l.take m) m) (chOf l kb ks s) = callHd st l kb ks s by
    have := headX_take (st := st) (l := l) (x := chOf l kb ks s)
    rw [HN.out, Nat.add_sub_cancel] at this
    exact this)
  have hm40 : m ≤ 40 := by have := HN.out; omega
  have hr8 : (roundsS st).size ≤ 8 := by rw [rounds_size st (by omega)]; exact h8.2
  have hx8 : (rAt (roundsS st) (l.take m) m).size ≤ 8 := by rw [rAt_size]; exact hr8
  have hch := goodChange_small (chOf_good hk s)
  have HT := Lib.hid (show (l.take m).length = m by rw [List.length_take, HN.out]; omega)
  obtain ⟨b, o, y, rfl, hbb, _, _⟩ := h.at_str (k := m) (by rw [HN.out]; omega)
  have hst8 := h8.2
  clear hgl hgb hgs h40 hn h8
  go_in
  go_upto_region 2 with fail
  obtain ⟨w0, hw0⟩ : ∃ u, u = ((w.alloc (.cells #[.string nm, .int .i64 st, .slice (some ⟨b, o, none⟩) (m + 1) c] 34)).alloc (.cells #[.string kb, .string ks] 36)) := ⟨_, rfl⟩
  rw [← hw0] at b0 K0 K1 ⊢
  clear hw0
  have H0 := h.up b0
  have R0 : Hid (Strs w0 (some ⟨b, o, none⟩) (l.take m)) := Lib.hid (by
    have := H0.part 0 m (Nat.zero_le _) (by rw [HN.out]; omega)
    simpa using this)
  have k0 := K0.cell 0; have k1 := K0.cell 1; have k2 := K0.cell 2; have q0 := K1.cell 0; have q1 := K1.cell 1
  simp only [List.getElem?_cons_zero, List.getElem?_cons_succ] at k0 k1 k2 q0 q1
  have hle : (m : Int) ≤ (c : Int) := by omega
  have hle2 : (0 : Int) ≤ (m : Int) := by omega
  have hnc : ¬ c = 0 := by omega
  have hB0 := Lib.hid b0
  go_region_held3 (fun u => u.cell? ⟨w.heap.size, 1, none⟩ = some (.int .i64 st) ∧ u.cell? ⟨w.heap.size, 2, none⟩ = some (.slice (some ⟨b, o, none⟩) (m + 1) c)) (first | exact ⟨k1d, k2d⟩ | exact ⟨k1, k2⟩) (first | (go_at_call 21; refine (spec_l1Rounds hst8).mono ?_; rintro e w' ⟨rfl, rfl⟩) | (go_at_call 19; refine (spec_l4Lead hr8 HT.out R0.out.drew (by omega) HS.out).mono ?_; rintro e w1 ⟨A1, c1, rfl, ho, hbd⟩; have hb1 := below_of_drew hbd; have L0 := K0.up hb1; have L1 := K1.up hb1; have k1d := L0.cell 1; have k2d := L0.cell 2; simp only [List.getElem?_cons_zero, List.getElem?_cons_succ] at k1d k2d))
  have k0d := L0.cell 0; have q0d := L1.cell 0; have q1d := L1.cell 1
  simp only [List.getElem?_cons_zero, List.getElem?_cons_succ] at k0d q0d q1d
  have hB1 := below_go b0 hb1
  clear k0 k1 k2 q0 q1
  go_wp2_with fail
  refine (spec_l8Change HN.out (h.up hB1) (by omega) (by omega)).mono ?_; rintro e w2 ⟨rfl, hb2⟩
  go_wp2_with fail
  refine (spec_l2Apply hx8 (by omega)).mono ?_; rw [e1.out]; rintro e w3 ⟨rfl, hb3⟩
  go_wp2
  go_ret
  exact ⟨rfl, below_go (below_go hB1 hb2) hb3⟩
end Go.Proofs.YtoheahbkopbmhaaGreat
/- A map to strings or to ints that the call has made, as a plain function of the key. -/
namespace Go.Proofs.YtoheahbkopbmhaaGreat
set_option linter.unusedVariables false
set_option linter.unusedSimpArgs false
open Go.ChangeShapes Go.WideShapes Go.ChangeAt Go.RowKit Go.Deep
open Go.Maps (Keyed)

/-- Block b is a map of at most n entries that reads as f. -/
def MapTo {α : Type} (en : α → Value) (li : α → Lit) (z : α) (P : Program) (w : World) (k e : TypeId) (b n : Nat) (f : Value → α) : Prop :=
  ∃ D : DataW Unit, w.ownsMap P k (plainElem P e) b n D ∧ ∀ key kl, keyOf P k key = some kl → D.atKey kl (.lit (li z)) = .lit (li (f key))
section
variable {α : Type} {en : α → Value} {li : α → Lit} {z : α} {P : Program} {w w' : World} {k e : TypeId} {b n : Nat} {f : Value → α}
theorem MapTo.made (en : α → Value) (li : α → Lit) (z : α) (P : Program) (w : World) (k e : TypeId) : MapTo en li z P (w.alloc (.map #[] 0)) k e w.heap.size 0 (fun _ => z) :=
  ⟨.map [], World.ownsMap_made w P k _, fun key kl _ => rfl⟩
theorem MapTo.lt (h : MapTo en li z P w k e b n f) : b < w.heap.size := by
  obtain ⟨D, h1, _⟩ := h
  exact h1.lt
theorem MapTo.kept {row : Option Nat} (h : MapTo en li z P w k e b n f) (hg : w.grownBy w' row) (hne : some b ≠ row) : MapTo en li z P w' k e b n f := by
  obtain ⟨D, h1, h2⟩ := h
  exact ⟨D, h1.kept hg hne, h2⟩
theorem MapTo.up (h : MapTo en li z P w k e b n f) (hb : Below w.heap.size w w') : MapTo en li z P w' k e b n f := h.kept (grown_of_below hb) (by simp)
theorem MapTo.alloc (h : MapTo en li z P w k e b n f) (o : Obj) : MapTo en li z P (w.alloc o) k e b n f := h.up ((Below.refl _ _).alloc (Nat.le_refl _) o)
theorem MapTo.drew (h : MapTo en li z P w k e b n f) : MapTo en li z P w.drew k e b n f := h.up (Below.refl _ _).drew
theorem MapTo.look {t : TypeId} (h : MapTo en li z P w k e b n f) (K : Keyed P k) (ht : P.underlying t = some (.map k e)) (hz : (zeroValue e).run P w = .ok (en z) w) (hzd : plainElem (H := Unit) P e (en z) = some (.lit (li z), [])) (hin : ∀ v x ps, plainElem (H := Unit) P e v = some (.lit (li x), ps) → v = en x)
    {key : Value} {kl : Lit} (hkey : keyOf P k key = some kl) : (Instr.lookup t (.map (some b)) key false).run P w = .ok (en (f key)) w := by
  obtain ⟨D, h1, h2⟩ := h
  obtain ⟨v, ps, hrun, hv⟩ := h1.lookup K ht hz hzd hkey
  rw [h2 key kl hkey] at hv
  rw [hrun, hin _ _ _ hv]
end
theorem MapTo.put {α : Type} {en : α → Value} {li : α → Lit} {z : α} {P : Program} {W : World} {t k e : TypeId} (K : Keyed P k) (ht : P.underlying t = some (.map k e)) {b n : Nat} {f : Value → α} (h : MapTo en li z P W k e b n f) (hn : n ≤ 16777216) {key : Value} {x : α}
    {kl : Lit} (hkey : keyOf P k key = some kl) (hpe : plainElem (H := Unit) P e (en x) = some (.lit (li x), [])) : ∃ w', (Instr.mapUpdate t (.map (some b)) key (en x)).run P W = .ok () w' ∧ (∀ g : Value → α, g key = x → (∀ q, q ≠ key → g q = f q) → MapTo en li z P w' k e b (n + 1) g) ∧ W.grownBy w' (some b) := by
  obtain ⟨D, h1, h2⟩ := h
  obtain ⟨w', hrun, hown, hg⟩ := h1.update K ht (by unfold maxLen; omega) hkey hpe
  refine ⟨w', hrun, fun g g1 g2 => ⟨_, hown, fun key' kl' hk' => ?_⟩, hg⟩
  by_cases ek : kl' = kl
  · subst ek
    have e1 : key' = key := K.inj hk' hkey
    subst e1
    rw [Maps.atKey_put_same h1.isMap (K.key hkey), g1]
  · have e1 : key' ≠ key := fun e2 => ek (by rw [e2, hkey] at hk'; injection hk' with hk'; exact hk'.symm)
    rw [Maps.atKey_put_other ek, g2 _ e1]
    exact h2 key' kl' hk'
theorem wp_map_put {α : Type} {en : α → Value} {li : α → Lit} {z : α} {P : Program} {o : Oper} {a : Act} {K' : Act → World → Prop} {Q : Exit → Act → World → Prop} {W : World} (M X V : Operand) (t : TypeId) (hop : o.op = Op.mapUpdate t M X V)
    {k e : TypeId} (K : Keyed P k) (ht : P.underlying t = some (.map k e)) {b n : Nat} {f : Value → α} (hm : a.eval M = .map (some b)) (h : MapTo en li z P W k e b n f) (hn : n ≤ 16777216) {key : Value} (hx : a.eval X = key) {x : α} (hv : a.eval V = en x)
    {kl : Lit} (hkey : keyOf P k key = some kl) (hpe : plainElem (H := Unit) P e (en x) = some (.lit (li x), [])) (hK : ∀ w', (∀ g : Value → α, g key = x → (∀ q, q ≠ key → g q = f q) → MapTo en li z P w' k e b (n + 1) g) → W.grownBy w' (some b) → K' (a.put o.dst undef) w') : o.wp P a W K' Q := by
  obtain ⟨w', hrun, r1, r2⟩ := h.put K ht hn hkey hpe
  unfold Oper.wp
  simp [execOp, hop, hm, hx, hv, hrun, Result.andThen]
  exact hK w' r1 r2
theorem wpList_map_put {α : Type} {en : α → Value} {li : α → Lit} {z : α} {P : Program} {ops : Array Oper} {rest : List Oper} {o : Oper} {a : Act} {Q : Exit → Act → World → Prop} {W : World} (hgd : o.guard = none) (M X V : Operand) (t : TypeId) (hop : o.op = Op.mapUpdate t M X V)
    {k e : TypeId} (K : Keyed P k) (ht : P.underlying t = some (.map k e)) {b n : Nat} {f : Value → α} (hm : a.eval M = .map (some b)) (h : MapTo en li z P W k e b n f) (hn : n ≤ 16777216) {key : Value} (hx : a.eval X = key) {x : α} (hv : a.eval V = en x)
    {kl : Lit} (hkey : keyOf P k key = some kl) (hpe : plainElem (H := Unit) P e (en x) = some (.lit (li x), [])) (hK : ∀ w', (∀ g : Value → α, g key = x → (∀ q, q ≠ key → g q = f q) → MapTo en li z P w' k e b (n + 1) g) → W.grownBy w' (some b) → wpList P ops Q rest (a.put o.dst undef) w') : wpList P ops Q (o :: rest) a W := by
  refine wpList_plain hgd fun K' hK' => wp_map_put M X V t hop K ht hm h hn hx hv hkey hpe fun w' r1 r2 => hK' _ _ (hK w' r1 r2)
theorem step_map_put {α : Type} {en : α → Value} {li : α → Lit} {z : α} {P : Program} {ops : Array Oper} {o : Oper} {a : Act} {K' : Act → World → Prop} {Q : Exit → Act → World → Prop} {E' : Prop} {W : World} (hgd : o.guard = none) (M X V : Operand) (t : TypeId) (hop : o.op = Op.mapUpdate t M X V)
    {k e : TypeId} (K : Keyed P k) (ht : P.underlying t = some (.map k e)) {b n : Nat} {f : Value → α} (hm : a.eval M = .map (some b)) (h : MapTo en li z P W k e b n f) (hn : n ≤ 16777216) {key : Value} (hx : a.eval X = key) {x : α} (hv : a.eval V = en x)
    {kl : Lit} (hkey : keyOf P k key = some kl) (hpe : plainElem (H := Unit) P e (en x) = some (.lit (li x), [])) (hK : ∀ w', (∀ g : Value → α, g key = x → (∀ q, q ≠ key → g q = f q) → MapTo en li z P w' k e b (n + 1) g) → W.grownBy w' (some b) → K' (a.put o.dst undef) w') :
    if Region.wanted o (yielded ops a.tmps) = true then Oper.wp P o a W K' Q else E' := by
  have hw : Region.wanted o (yielded ops a.tmps) = true := by simp [Region.wanted, hgd]
  rw [if_pos hw]
  exact wp_map_put M X V t hop K ht hm h hn hx hv hkey hpe hK
theorem wp_map_ins {α : Type} {en : α → Value} {li : α → Lit} {z : α} {P : Program} {o : Oper} {a : Act} {K' : Act → World → Prop} {Q : Exit → Act → World → Prop} {W : World} (M X V : Operand) (t : TypeId) (hop : o.op = Op.insert t M X V)
    {k e : TypeId} (K : Keyed P k) (ht : P.underlying t = some (.map k e)) {b n : Nat} {f : Value → α} (hm : a.eval M = .map (some b)) (h : MapTo en li z P W k e b n f) (hn : n ≤ 16777216) {key : Value} (hx : a.eval X = key) {x : α} (hv : a.eval V = en x)
    {kl : Lit} (hkey : keyOf P k key = some kl) (hpe : plainElem (H := Unit) P e (en x) = some (.lit (li x), [])) (hK : ∀ w', (∀ g : Value → α, g key = x → (∀ q, q ≠ key → g q = f q) → MapTo en li z P w' k e b (n + 1) g) → W.grownBy w' (some b) → K' (a.put o.dst undef) w') : o.wp P a W K' Q := by
  obtain ⟨w', hrun, r1, r2⟩ := h.put K ht hn hkey hpe
  unfold Oper.wp
  simp [execOp, hop, hm, hx, hv, hrun, Result.andThen]
  exact hK w' r1 r2
theorem step_map_ins {α : Type} {en : α → Value} {li : α → Lit} {z : α} {P : Program} {ops : Array Oper} {o : Oper} {a : Act} {K' : Act → World → Prop} {Q : Exit → Act → World → Prop} {E' : Prop} {W : World} (hgd : o.guard = none) (M X V : Operand) (t : TypeId) (hop : o.op = Op.insert t M X V)
    {k e : TypeId} (K : Keyed P k) (ht : P.underlying t = some (.map k e)) {b n : Nat} {f : Value → α} (hm : a.eval M = .map (some b)) (h : MapTo en li z P W k e b n f) (hn : n ≤ 16777216) {key : Value} (hx : a.eval X = key) {x : α} (hv : a.eval V = en x)
    {kl : Lit} (hkey : keyOf P k key = some kl) (hpe : plainElem (H := Unit) P e (en x) = some (.lit (li x), [])) (hK : ∀ w', (∀ g : Value → α, g key = x → (∀ q, q ≠ key → g q = f q) → MapTo en li z P w' k e b (n + 1) g) → W.grownBy w' (some b) → K' (a.put o.dst undef) w') :
    if Region.wanted o (yielded ops a.tmps) = true then Oper.wp P o a W K' Q else E' := by
  have hw : Region.wanted o (yielded ops a.tmps) = true := by simp [Region.wanted, hgd]
  rw [if_pos hw]
  exact wp_map_ins M X V t hop K ht hm h hn hx hv hkey hpe hK
/-- The bound on a map's size is the length of what it reads as. -/
theorem ownsMap_tight {H : Type} {P : Program} {w : World} {k : TypeId} {R : Value → Option (DataW H × List MemPlace)} {b n m : Nat} {l : List (Lit × DataW H)} (h : w.ownsMap P k R b n (.map l)) (hm : l.length ≤ m) : w.ownsMap P k R b m (.map l) := by
  obtain ⟨es, clock, hb, F, hs, hD⟩ := h
  refine ⟨es, clock, hb, F, ?_, hD⟩
  injection hD with hD
  have e1 := congrArg List.length hD
  rw [length_sorted] at e1
  simp at e1
  omega
/-- The world behind 'm[key] = v'. -/
def putW (P : Program) (t : TypeId) (b : Nat) (key v : Value) (u : World) : World :=
  match (Instr.mapUpdate t (.map (some b)) key v).run P u with
  | .ok _ w' => w'
  | _ => u
theorem putW_eq {P : Program} {t : TypeId} {b : Nat} {key v : Value} {u w' : World} (h : (Instr.mapUpdate t (.map (some b)) key v).run P u = .ok () w') : putW P t b key v u = w' := by
  rw [putW, h]
/-! strings -/
def sLi (s : ByteArray) : Lit := .string s.data.toList
theorem ba_ext {s t : ByteArray} (h : s.data.toList = t.data.toList) : s = t := by
  cases s; cases t
  simp only [ByteArray.mk.injEq]
  exact Array.ext' h
theorem sLi_pe {P : Program} {e : TypeId} (he : P.underlying e = some .string) {s : ByteArray} (hs : s.size ≤ 16777216) : plainElem (H := Unit) P e (.string s) = some (.lit (sLi s), []) := plainElem_string he (by unfold maxLen; omega)
theorem sLi_in {P : Program} {e : TypeId} (he : P.underlying e = some .string) (v : Value) (x : ByteArray) (ps : List MemPlace) (h : plainElem (H := Unit) P e v = some (.lit (sLi x), ps)) : v = .string x := by
  obtain ⟨s, rfl, hz, _⟩ := plainElem_string_inv he h
  simp only [Prod.mk.injEq, DataW.lit.injEq, sLi, Lit.string.injEq] at hz
  rw [ba_ext hz.1]
/-! ints -/
theorem lit_i64 {x : Int} (h : I64 x) : (Lit.int .i64 x).wf = true := by
  simp only [Lit.wf, Bool.and_eq_true, decide_eq_true_eq]
  exact h
def iLi (i : Int) : Lit := .int .i64 i
theorem iLi_pe {P : Program} {e : TypeId} (he : P.underlying e = some (.int .i64)) {i : Int} (hi : I64 i) : plainElem (H := Unit) P e (.int .i64 i) = some (.lit (iLi i), []) := plainElem_int he (lit_i64 hi)
theorem iLi_in {P : Program} {e : TypeId} (he : P.underlying e = some (.int .i64)) (v : Value) (x : Int) (ps : List MemPlace) (h : plainElem (H := Unit) P e v = some (.lit (iLi x), ps)) : v = .int .i64 x := by
  obtain ⟨s, rfl, hz, _⟩ := plainElem_int_inv he h
  simp only [Prod.mk.injEq, DataW.lit.injEq, iLi, Lit.int.injEq] at hz
  rw [hz.1.2]
end Go.Proofs.YtoheahbkopbmhaaGreat
/- The walks through touches: good ones and their heads, both sides. -/
namespace Go.Proofs.YtoheahbkopbmhaaGreat
set_option linter.unusedVariables false
set_option linter.unusedSimpArgs false
open Go.ChangeShapes Go.WideShapes Go.ChangeAt Go.RowKit Go.Deep
theorem letter_one {t : ByteArray} {k : Nat} (h : k < t.size) : letter t k = strOfNums [PlainAid.bt t k] := one_byte h
theorem letter_p {t : ByteArray} {k : Nat} (h : k < t.size) (e : PlainAid.bt t k = 112) : letter t k = ⟨#[112]⟩ := by rw [letter_one h, e]; rfl
theorem letter_b {t : ByteArray} {k : Nat} (h : k < t.size) (e : PlainAid.bt t k = 98) : letter t k = ⟨#[98]⟩ := by rw [letter_one h, e]; rfl
theorem letter_s {t : ByteArray} {k : Nat} (h : k < t.size) (e : PlainAid.bt t k = 115) : letter t k = ⟨#[115]⟩ := by rw [letter_one h, e]; rfl
theorem is_one {c : ByteArray} {x : UInt8} (h : (c.toList == [x]) = true) : c = ⟨#[x]⟩ := by
  have h1 : c.toList = [x] := by simpa using h
  have h2 : c.data.toList = [x] := by rw [← ByteArray.toList_eq]; exact h1
  exact ba_ext (t := ⟨#[x]⟩) h2
theorem isCl_letter {t : ByteArray} {k : Nat} (h : k < t.size) : isCl (letter t k) = callB t k := by
  have nn := PlainAid.bt_nonneg t k; have nl := PlainAid.bt_le t k
  by_cases e1 : PlainAid.bt t k = 112
  · rw [letter_p h e1, show callB t k = true from by simp [callB, e1]]; decide +kernel
  by_cases e2 : PlainAid.bt t k = 98
  · rw [letter_b h e2, show callB t k = true from by simp [callB, e2]]; decide +kernel
  by_cases e3 : PlainAid.bt t k = 115
  · rw [letter_s h e3, show callB t k = true from by simp [callB, e3]]; decide +kernel
  have hb : callB t k = false := by simp [callB, e1, e2, e3]
  rw [hb]
  have key : ∀ x : UInt8, (PlainAid.bt t k ≠ x.toNat) → ((letter t k).toList == [x]) = false := by
    intro x hx
    rcases hq : ((letter t k).toList == [x])
    · rfl
    · exfalso
      have e4 := is_one hq
      rw [letter_one h] at e4
      have e5 := congrArg nums e4
      rw [nums_strOf (by intro y hy; simp at hy; subst hy; omega)] at e5
      apply hx
      have e6 : nums ⟨#[x]⟩ = [(x.toNat : Int)] := by rfl
      rw [e6] at e5
      injection e5
  rw [isCl, isP, isB, isS, key 112 e1, key 98 e2, key 115 e3]
  rfl
set_option maxRecDepth 100000 in
theorem impl_areCalls {t : ByteArray} {w : World} (hz : t.size ≤ 16777216) :
    Calls Tryz.prog 86 #[.string t] w fun e w' => e = .returned (.bool ((List.range t.size).all (callB t))) ∧ w = w' := by
  have gb := PlainAid.get_bt t
  go_in
  go_wp2
  go_loopw [6] (fun i wr => ∃ k : Nat, k ≤ t.size ∧ i = .int .i64 k ∧ Hid (∀ j, j < k → callB t j = true) ∧ w = wr) (fun i _ => t.size - (intOf i).toNat)
  case atStart => exact ⟨0, Nat.zero_le _, rfl, Lib.hid (fun j hj => absurd hj (by omega)), rfl⟩
  case round =>
    obtain ⟨k, hk, rfl, HK, rfl⟩ := hrel
    by_cases hlt : k < t.size
    · go_wp2_with fail
      refine (impl_isCall (s := letter t k)).mono ?_; rintro e w' ⟨rfl, rfl⟩
      have E := Lib.hid (isCl_letter hlt)
      rcases hg : isCl (letter t k)
      · have e1 := Lib.hid (show (List.range t.size).all (callB t) = false by rw [List.all_eq_false]; exact ⟨k, List.mem_range.2 hlt, by rw [← E.out, hg]; simp⟩)
        go_wp2
        go_ret
        rw [e1.out]
        exact ⟨rfl, rfl⟩
      · have e1 := Lib.hid (show callB t k = true by rw [← E.out, hg])
        go_wp2
        go_roundw
        case rel => exact ⟨k + 1, by omega, by go_num, Lib.hid (upto_succ HK.out e1.out), trivial⟩
        case measure => simp [intOf]; omega
    · obtain rfl : k = t.size := by omega
      have e1 := Lib.hid (show (List.range t.size).all (callB t) = true by rw [List.all_eq_true]; exact fun j hj => HK.out j (List.mem_range.1 hj))
      go_wp2
      go_ret
      rw [e1.out]
      exact ⟨rfl, rfl⟩
theorem impl_GoodTouch {t : ByteArray} {w : World} (hz : t.size ≤ 16777216) :
    Calls Tryz.prog 66 #[.string t] w fun e w' => e = .returned (.bool (goodT t)) ∧ w = w' := by
  have HQ : Hid (goodT t = ((List.range t.size).all (callB t) && inB t.size 1 60)) := Lib.hid rfl
  by_cases h1 : t.size < 1
  · have hI : ¬ (1 : Int) ≤ (t.size : Int) := by omega
    have e1 := Lib.hid (show goodT t = false by rw [HQ.out, inB, decide_eq_false (by omega), Bool.and_false])
    go_in
    go_wp2
    go_ret
    rw [e1.out]
    exact ⟨rfl, rfl⟩
  · by_cases h2 : 60 < t.size
    · have hI : (1 : Int) ≤ (t.size : Int) := by omega
      have hJ : ¬ (t.size : Int) ≤ 60 := by omega
      have e1 := Lib.hid (show goodT t = false by rw [HQ.out, inB, decide_eq_false (by omega), Bool.and_false])
      go_in
      go_wp2
      go_ret
      rw [e1.out]
      exact ⟨rfl, rfl⟩
    · have hI : (1 : Int) ≤ (t.size : Int) := by omega
      have hJ : (t.size : Int) ≤ 60 := by omega
      have e1 := Lib.hid (show goodT t = (List.range t.size).all (callB t) by rw [HQ.out, inB, decide_eq_true (by omega), Bool.and_true])
      go_in
      go_wp2_with fail
      refine (impl_areCalls hz).mono ?_; rintro e w' ⟨rfl, rfl⟩
      go_wp2
      go_ret
      rw [e1.out]
      exact ⟨rfl, rfl⟩
set_option maxHeartbeats 1000000 in
theorem impl_goodFor {A : Option Addr} {n c : Nat} {nm : ByteArray} {st : Int} {l : List ByteArray} {kb ks : ByteArray} {t : ByteArray} {w : World} (hn : l.length = n) (h : Strs w A l) (hz : n ≤ 1048576) (hs : ∀ s ∈ l, s.size ≤ 16777216) (hnm : nm.size ≤ 16777216) (hst : I64 st) (hkb : kb.size ≤ 16777216) (hks : ks.size ≤ 16777216) (ht : t.size ≤ 16777216) :
    Calls Tryz.prog 45 #[.agg #[.string nm, .int .i64 st, .slice A n c], .agg #[.string kb, .string ks], .string t] w fun e w' => e = .returned (.bool (goodF nm st l kb ks t)) ∧ Below w.heap.size w w' := by
  have HQ : Hid (goodF nm st l kb ks t = (goodK nm st l kb ks && goodT t)) := Lib.hid rfl
  have b0 : Below w.heap.size w ((w.alloc (.cells ⟨[.string nm, .int .i64 st, .slice A n c]⟩ 34)).alloc (.cells ⟨[.string kb, .string ks]⟩ 36)) := by (repeat' (first | (with_reducible exact Below.refl _ _) | (with_reducible assumption) | (with_reducible refine below_drewN ?_ _) | (with_reducible refine Below.drew ?_) | (with_reducible refine below_alloc ?_ _) | (with_reducible refine Below.alloc ?_ ?_ _) | (with_reducible refine Below.setCell ?_ ?_ _) | (with_reducible refine below_go ?_ (by with_reducible assumption)) | (with_reducible refine below_then (by with_reducible assumption) ?_ ?_) | go_size))
  go_in
  go_wp2_with fail
  refine (impl_GoodCalls hn (h.up b0) hz hs hnm hst hkb hks).mono ?_; rintro e w1 ⟨rfl, hb1⟩
  rcases h1 : goodK nm st l kb ks
  · have e1 := Lib.hid (show goodF nm st l kb ks t = false by rw [HQ.out, h1]; rfl)
    go_wp2
    go_ret
    rw [e1.out]
    exact ⟨rfl, below_go b0 hb1⟩
  · have e1 := Lib.hid (show goodF nm st l kb ks t = goodT t by rw [HQ.out, h1]; rfl)
    go_wp2_with fail
    refine (impl_GoodTouch ht).mono ?_; rintro e w' ⟨rfl, rfl⟩
    go_wp2
    go_ret
    rw [e1.out]
    exact ⟨rfl, below_go b0 hb1⟩
set_option maxRecDepth 100000 in
theorem spec_l9Good {t : ByteArray} {w : World} (hz : t.size ≤ 16777216) :
    Calls Tryz.prog 60 #[.string t] w fun e w' => e = .returned (.bool (goodT t)) ∧ w = w' := by
  have gb := PlainAid.get_bt t
  have HQ : Hid (goodT t = ((List.range t.size).all (callB t) && inB t.size 1 60)) := Lib.hid rfl
  go_in
  go_wp2
  go_loopw [3] (fun i wr => ∃ k : Nat, k ≤ t.size ∧ i = .int .i64 k ∧ Hid (∀ j, j < k → callB t j = true) ∧ w = wr) (fun i _ => t.size - (intOf i).toNat)
  case atStart => exact ⟨0, Nat.zero_le _, rfl, Lib.hid (fun j hj => absurd hj (by omega)), rfl⟩
  case round =>
    obtain ⟨k, hk, rfl, HK, rfl⟩ := hrel
    by_cases hlt : k < t.size
    · go_wp2_with fail
      refine (spec_l8Call (s := letter t k)).mono ?_; rintro e w' ⟨rfl, rfl⟩
      have E := Lib.hid (isCl_letter hlt)
      rcases hg : isCl (letter t k)
      · have e1 := Lib.hid (show goodT t = false by
          rw [HQ.out, show (List.range t.size).all (callB t) = false from by rw [List.all_eq_false]; exact ⟨k, List.mem_range.2 hlt, by rw [← E.out, hg]; simp⟩, Bool.false_and])
        go_wp2
        go_ret
        rw [e1.out]
        exact ⟨rfl, rfl⟩
      · have e1 := Lib.hid (show callB t k = true by rw [← E.out, hg])
        go_wp2
        go_roundw
        case rel => exact ⟨k + 1, by omega, by go_num, Lib.hid (upto_succ HK.out e1.out), trivial⟩
        case measure => simp [intOf]; omega
    · obtain rfl : k = t.size := by omega
      have e1 := Lib.hid (show goodT t = inB t.size 1 60 by rw [HQ.out, show (List.range t.size).all (callB t) = true from by rw [List.all_eq_true]; exact fun j hj => HK.out j (List.mem_range.1 hj), Bool.true_and])
      go_wp2_with fail
      refine (spec_l1In _ _ _ _).mono ?_; rintro e w' ⟨rfl, rfl⟩
      go_wp2
      go_ret
      rw [e1.out]
      exact ⟨rfl, rfl⟩
theorem spec_GoodTouch {t : ByteArray} {w : World} (hz : t.size ≤ 16777216) :
    Calls Tryz.prog 39 #[.string t] w fun e w' => e = .returned (.bool (goodT t)) ∧ w = w' := by
  go_in
  go_wp2_with fail
  refine (spec_l9Good hz).mono ?_; rintro e w' ⟨rfl, rfl⟩
  go_wp2
  go_ret
  exact ⟨rfl, rfl⟩
end Go.Proofs.YtoheahbkopbmhaaGreat
