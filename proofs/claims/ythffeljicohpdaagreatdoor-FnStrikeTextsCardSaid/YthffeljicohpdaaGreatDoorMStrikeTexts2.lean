/- Texts 2 of 5 that the claim leans on: plain laws and the walks' contracts, in order. -/
import Derived.Test.YthffeljicohpdaaGreatDoorMStrikeTexts1
import Derived.Maps.OwnSet
import Derived.Maps.Views
import Derived.WideKeyPair
import Derived.DeepKeys4
import Derived.BigRegion
import Derived.Lib.Strings
import Derived.Deep.Cut
/- Methods, calls and touches as plain functions. -/
namespace Go.Proofs.YthffeljicohpdaaGreatDoor
set_option linter.unusedVariables false
set_option linter.unusedSimpArgs false
open Go.ChangeShapes Go.WideShapes Go.ChangeAt Go.RowKit Go.Deep
def lowB (s : ByteArray) (k : Nat) : Bool := inB (PlainAid.bt s k) 97 122
def nameOk (s : ByteArray) : Bool := (List.range s.size).all (lowB s) && inB s.size 1 10
def goodM (nm : ByteArray) (st : Int) (l : List ByteArray) : Bool := nameOk nm && (inB st 3 8 && (inB l.length 1 40 && allCh st l))
def goodK (nm : ByteArray) (st : Int) (l : List ByteArray) (b s : ByteArray) : Bool := goodM nm st l && (goodChange st b && goodChange st s)
theorem goodM_t {nm : ByteArray} {st : Int} {l : List ByteArray} (h : goodM nm st l = true) : nameOk nm = true ∧ (3 ≤ st ∧ st ≤ 8) ∧ (1 ≤ l.length ∧ l.length ≤ 40) ∧ allCh st l = true := by
  simp only [goodM, Bool.and_eq_true] at h
  have h1 := inB_t h.2.1
  have h2 := inB_t h.2.2.1
  exact ⟨h.1, h1, by omega, h.2.2.2⟩
theorem goodK_t {nm : ByteArray} {st : Int} {l : List ByteArray} {b s : ByteArray} (h : goodK nm st l b s = true) : goodM nm st l = true ∧ goodChange st b = true ∧ goodChange st s = true := by
  simpa only [goodK, Bool.and_eq_true] using h
theorem goodChange_small {n : Int} {c : ByteArray} (h : goodChange n c = true) : c.size ≤ 6 := by
  have hn := goodChange_n h
  rcases hs : sizeOk n c
  · rw [goodChange_size hs] at h; cases h
  · have := sizeOk_t hs; omega
/-! lead heads -/
theorem rAt_congr {a : ByteArray} {l m : List ByteArray} : ∀ (k : Nat), (∀ j, j < k → l[j]? = m[j]?) → rAt a l k = rAt a m k
  | 0, _ => rfl
  | k + 1, h => by
    rw [rAt, rAt, rAt_congr k (fun j hj => h j (by omega)), List.getD, List.getD, h k (by omega)]
/-- The head of a lead of the changes l whose last change is x. -/
def headX (st : Nat) (l : List ByteArray) (x : ByteArray) : ByteArray := applyR (rAt (roundsS st) l (l.length - 1)) x
theorem headX_set {st : Nat} {l : List ByteArray} {x : ByteArray} (h : 0 < l.length) : rAt (roundsS st) (l.set (l.length - 1) x) l.length = headX st l x := by
  obtain ⟨k, hk⟩ : ∃ k, l.length = k + 1 := ⟨l.length - 1, by omega⟩
  have e1 : (l.set (l.length - 1) x)[k]? = some x := by rw [hk, Nat.add_sub_cancel]; exact List.getElem?_set_self (by omega)
  conv => lhs; rw [hk]
  rw [rAt_succ (k := k) (by rw [← hk]; exact e1), headX, hk, Nat.add_sub_cancel]
  congr 1
  exact rAt_congr k fun j hj => by rw [List.getElem?_set_ne (by omega)]
theorem headX_take {st : Nat} {l : List ByteArray} {x : ByteArray} : applyR (rAt (roundsS st) (l.take (l.length - 1)) (l.length - 1)) x = headX st l x := by
  rw [headX, rAt_take _ _ _ _ (Nat.le_refl _)]
theorem headX_last {st : Nat} {l : List ByteArray} {x : ByteArray} (hx : l[l.length - 1]? = some x) : rAt (roundsS st) l l.length = headX st l x := by
  have h := (List.getElem?_eq_some_iff.1 hx).1
  have e : l.set (l.length - 1) x = l := by
    apply List.ext_getElem?
    intro i
    by_cases hi : i = l.length - 1
    · subst hi; rw [List.getElem?_set_self h, hx]
    · rw [List.getElem?_set_ne (fun e => hi e.symm)]
  rw [← headX_set (st := st) (x := x) (by omega), e]
theorem headX_size {st : Nat} (hs : st < 9) (l : List ByteArray) (x : ByteArray) : (headX st l x).size = st := by rw [headX, applyR_size, rAt_size, rounds_size st hs]
theorem good_rAt {a : ByteArray} (h : goodRow a = true) (l : List ByteArray) : ∀ k, goodRow (rAt a l k) = true
  | 0 => h
  | k + 1 => by rw [rAt]; exact good_apply (good_rAt h l k) _
theorem headX_good {st : Nat} (h3 : 3 ≤ st) (h8 : st ≤ 8) (l : List ByteArray) (x : ByteArray) : goodRow (headX st l x) = true := by
  rw [headX]; exact good_apply (good_rAt (good_rounds st (by omega) h3) l _) _
/-! calls: 'p', 'b', 's' -/
def isP (c : ByteArray) : Bool := c.toList == [112]
def isB (c : ByteArray) : Bool := c.toList == [98]
def isS (c : ByteArray) : Bool := c.toList == [115]
def isCl (c : ByteArray) : Bool := isP c || (isB c || isS c)
def lastC (l : List ByteArray) : ByteArray := l.getD (l.length - 1) ByteArray.empty
/-- The change that a call makes the last one. -/
def chOf (l : List ByteArray) (b s c : ByteArray) : ByteArray := if isB c = true then b else if isS c = true then s else lastC l
theorem lastC_at {l : List ByteArray} (h : 0 < l.length) : l[l.length - 1]? = some (lastC l) := by
  rw [lastC, List.getD, List.getElem?_eq_getElem (by omega)]; rfl
def callHd (st : Nat) (l : List ByteArray) (b s c : ByteArray) : ByteArray := headX st l (chOf l b s c)
/-! touches -/
def callB (t : ByteArray) (k : Nat) : Bool := (PlainAid.bt t k == 112) || ((PlainAid.bt t k == 98) || (PlainAid.bt t k == 115))
def goodT (t : ByteArray) : Bool := (List.range t.size).all (callB t) && inB t.size 1 60
theorem goodT_t {t : ByteArray} (h : goodT t = true) : 1 ≤ t.size ∧ t.size ≤ 60 ∧ ∀ k, k < t.size → callB t k = true := by
  rw [goodT, Bool.and_eq_true, List.all_eq_true] at h
  have := inB_t h.2
  exact ⟨by omega, by omega, fun k hk => h.1 k (List.mem_range.2 hk)⟩
def goodF (nm : ByteArray) (st : Int) (l : List ByteArray) (b s t : ByteArray) : Bool := goodK nm st l b s && goodT t
/-- The head of the k-th lead's call. -/
def letter (t : ByteArray) (k : Nat) : ByteArray := t.extract k (k + 1)
def hdAt (st : Nat) (l : List ByteArray) (b s t : ByteArray) : Nat → ByteArray
  | 0 => roundsS st
  | k + 1 => timesS (hdAt st l b s t k) (callHd st l b s (letter t k))
def hdsL (st : Nat) (l : List ByteArray) (b s t : ByteArray) (k : Nat) : List ByteArray := (List.range k).map (hdAt st l b s t)
theorem hdsL_len (st : Nat) (l : List ByteArray) (b s t : ByteArray) (k : Nat) : (hdsL st l b s t k).length = k := by simp [hdsL]
theorem hdsL_succ (st : Nat) (l : List ByteArray) (b s t : ByteArray) (k : Nat) : hdsL st l b s t (k + 1) = hdsL st l b s t k ++ [hdAt st l b s t k] := by rw [hdsL, List.range_succ, List.map_append]; rfl
theorem hdsL_at {st : Nat} {l : List ByteArray} {b s t : ByteArray} {k j : Nat} (h : j < k) : (hdsL st l b s t k)[j]? = some (hdAt st l b s t j) := by rw [hdsL, List.getElem?_map, List.getElem?_range h]; rfl
theorem hdAt_good {st : Nat} (h3 : 3 ≤ st) (h8 : st ≤ 8) (l : List ByteArray) (b s t : ByteArray) : ∀ k, goodRow (hdAt st l b s t k) = true ∧ (hdAt st l b s t k).size = st
  | 0 => ⟨good_rounds st (by omega) h3, rounds_size st (by omega)⟩
  | k + 1 => by
    have ih := hdAt_good h3 h8 l b s t k
    have hs := headX_size (st := st) (by omega) l (chOf l b s (letter t k))
    have hg := headX_good h3 h8 l (chOf l b s (letter t k))
    rw [hdAt]
    exact ⟨good_times ih.1 hg (by rw [ih.2, callHd, hs]), by rw [timesS, strOfNums_size, timesL_len, callHd, hs]⟩
theorem fits_good {a b : ByteArray} (g : goodRow b = true) (e : a.size = b.size) : fits a b := by
  intro k hk
  have := (goodRow_list g).2 _ (List.mem_of_getElem? (nums_at hk))
  rw [nums_len] at this
  omega
/-! rows of a touch -/
def tRows (st : Nat) (l : List ByteArray) (b s t : ByteArray) (k : Nat) : List ByteArray := (hdsL st l b s t k).flatMap fun h => rowsL h l l.length
theorem tRows_succ (st : Nat) (l : List ByteArray) (b s t : ByteArray) (k : Nat) : tRows st l b s t (k + 1) = tRows st l b s t k ++ rowsL (hdAt st l b s t k) l l.length := by
  rw [tRows, hdsL_succ, List.flatMap_append]; simp [tRows]
theorem tRows_len (st : Nat) (l : List ByteArray) (b s t : ByteArray) : ∀ k, (tRows st l b s t k).length = k * l.length
  | 0 => by simp [tRows, hdsL]
  | k + 1 => by rw [tRows_succ, List.length_append, tRows_len st l b s t k, rowsL_len, Nat.succ_mul]
def rowsOk (nm : ByteArray) (st : Int) (l : List ByteArray) (b s t : ByteArray) : Bool := goodF nm st l b s t && decide (t.size * l.length ≤ 800)
end Go.Proofs.YthffeljicohpdaaGreatDoor
/- Sorting texts: a strict order, sorted lists, repeats among neighbours. -/
namespace Go.Proofs.YthffeljicohpdaaGreatDoor
set_option linter.unusedVariables false
set_option linter.unusedSimpArgs false
open Go.ChangeShapes Go.WideShapes Go.ChangeAt Go.RowKit Go.Deep
theorem bytes_trans : ∀ (a b c : List UInt8), Op.bytesLess a b = true → Op.bytesLess b c = true → Op.bytesLess a c = true
  | _, _, [], _, h => by cases ‹List UInt8› <;> simp [Op.bytesLess] at h
  | [], _, c :: z, _, _ => by simp [Op.bytesLess]
  | a :: x, [], c :: z, h, _ => by simp [Op.bytesLess] at h
  | a :: x, b :: y, c :: z, h1, h2 => by
    simp only [Op.bytesLess, Bool.or_eq_true, Bool.and_eq_true, decide_eq_true_eq, beq_iff_eq] at h1 h2 ⊢
    rcases h1 with h1 | ⟨rfl, h1⟩
    · rcases h2 with h2 | ⟨rfl, h2⟩
      · left
        have q1 := UInt8.lt_iff_toNat_lt.1 h1; have q2 := UInt8.lt_iff_toNat_lt.1 h2
        exact UInt8.lt_iff_toNat_lt.2 (by omega)
      · exact .inl h1
    · rcases h2 with h2 | ⟨rfl, h2⟩
      · exact .inl h2
      · exact .inr ⟨rfl, bytes_trans x y z h1 h2⟩
theorem less_trans {a b c : ByteArray} (h1 : less a b = true) (h2 : less b c = true) : less a c = true := bytes_trans _ _ _ h1 h2
theorem toList_inj {a b : ByteArray} (h : a.toList = b.toList) : a = b := by
  rw [ByteArray.toList_eq, ByteArray.toList_eq] at h
  cases a; cases b
  congr 1
  exact Array.ext' h
theorem less_tri (a b : ByteArray) : less a b = true ∨ a = b ∨ less b a = true := by
  rcases bytes_tri a.toList b.toList with ⟨h, _⟩ | ⟨_, h, _⟩ | ⟨_, _, h⟩
  · exact .inl h
  · exact .inr (.inl (toList_inj (by simpa using h)))
  · exact .inr (.inr h)
theorem less_irr (a : ByteArray) : less a a = false := by
  rcases h : less a a
  · rfl
  · have h' := h
    have := (less_yes h).1
    rcases bytes_tri a.toList a.toList with ⟨h1, h2, h3⟩ | ⟨h1, h2, h3⟩ | ⟨h1, h2, h3⟩
    · rw [h1] at h3; cases h3
    · rw [this] at h1; cases h1
    · rw [h3] at h1; cases h1
/-- Not behind. -/
def leS (a b : ByteArray) : Bool := !less b a
theorem leS_refl (a : ByteArray) : leS a a = true := by rw [leS, less_irr]; rfl
theorem leS_trans (a b c : ByteArray) (h1 : leS a b = true) (h2 : leS b c = true) : leS a c = true := by
  simp only [leS, Bool.not_eq_true'] at h1 h2 ⊢
  rcases h : less c a
  · rfl
  · rcases less_tri b c with q | q | q
    · have := less_trans q h; rw [h1] at this; cases this
    · subst q; rw [h] at h1; cases h1
    · rw [q] at h2; cases h2
theorem leS_total (a b : ByteArray) : (leS a b || leS b a) = true := by
  simp only [leS]
  rcases h : less b a
  · rfl
  · rcases h2 : less a b
    · rfl
    · have := less_trans h h2; rw [less_irr] at this; cases this
theorem leS_anti {a b : ByteArray} (h1 : leS a b = true) (h2 : leS b a = true) : a = b := by
  simp only [leS, Bool.not_eq_true'] at h1 h2
  rcases less_tri a b with q | q | q
  · rw [q] at h2; cases h2
  · exact q
  · rw [q] at h1; cases h1
def Srt (l : List ByteArray) : Prop := l.Pairwise fun a b => leS a b = true
theorem merge_srt {a b : List ByteArray} (ha : Srt a) (hb : Srt b) : Srt (List.merge a b leS) := List.pairwise_merge leS_trans leS_total a b ha hb
theorem merge_perm (a b : List ByteArray) : (List.merge a b leS).Perm (a ++ b) := List.merge_perm_append leS
theorem srt_unique : ∀ {a b : List ByteArray}, Srt a → Srt b → a.Perm b → a = b
  | [], b, _, _, h => h.nil_eq
  | x :: a, [], _, _, h => by have := h.length_eq; simp at this
  | x :: a, y :: b, ha, hb, h => by
    have hx := List.pairwise_cons.1 ha
    have hy := List.pairwise_cons.1 hb
    have e : x = y := by
      rcases List.mem_cons.1 (h.subset (List.mem_cons_self ..)) with q | q
      · exact q
      · rcases List.mem_cons.1 (h.symm.subset (List.mem_cons_self ..)) with r | r
        · exact r.symm
        · exact leS_anti (hx.1 y r) (hy.1 x q)
    subst e
    rw [srt_unique hx.2 hy.2 h.cons_inv]
def nextEq (l : List ByteArray) (k : Nat) : Bool := decide (l.getD k ByteArray.empty = l.getD (k - 1) ByteArray.empty)
theorem nextEq_at {l : List ByteArray} {k : Nat} {x y : ByteArray} (hx : l[k - 1]? = some x) (hy : l[k]? = some y) : nextEq l k = decide (y = x) := by simp [nextEq, List.getD, hx, hy]
/-- No text twice. -/
def nodupB (l : List ByteArray) : Bool := decide l.Nodup
theorem srt_nodup {l : List ByteArray} (h : Srt l) : l.Nodup ↔ ∀ k, 1 ≤ k → k < l.length → nextEq l k = false := by
  constructor
  · intro hn k h1 h2
    rw [nextEq, decide_eq_false_iff_not]
    rw [List.nodup_iff_pairwise_ne, List.pairwise_iff_getElem] at hn
    have := hn (k - 1) k (by omega) h2 (by omega)
    rw [List.getD, List.getD, List.getElem?_eq_getElem h2, List.getElem?_eq_getElem (by omega)]
    exact fun e => this (by simpa using e.symm)
  · intro hk
    have key : ∀ d i j, j = i + d + 1 → (hj : j < l.length) → (hi : i < l.length) → less l[i] l[j] = true := by
      intro d
      induction d with
      | zero =>
        intro i j e hj hi
        subst e
        have h1 := hk (i + 1) (by omega) hj
        rw [nextEq, decide_eq_false_iff_not, List.getD, List.getD, Nat.add_sub_cancel, List.getElem?_eq_getElem hj, List.getElem?_eq_getElem hi] at h1
        have h2 := (List.pairwise_iff_getElem.1 h) i (i + 1) hi hj (by omega)
        rcases less_tri l[i] l[i + 1] with q | q | q
        · exact q
        · exact absurd (by simpa using q.symm) h1
        · simp [leS, q] at h2
      | succ d ih =>
        intro i j e hj hi
        exact less_trans (ih i (i + d + 1) rfl (by omega) hi) (by
          subst e
          have h1 := hk (i + (d + 1) + 1) (by omega) hj
          rw [nextEq, decide_eq_false_iff_not, List.getD, List.getD, Nat.add_sub_cancel, List.getElem?_eq_getElem hj, List.getElem?_eq_getElem (by omega)] at h1
          have h2 := (List.pairwise_iff_getElem.1 h) (i + (d + 1)) (i + (d + 1) + 1) (by omega) hj (by omega)
          rcases less_tri (l[i + (d + 1)]'(by omega)) l[i + (d + 1) + 1] with q | q | q
          · exact q
          · exact absurd (by simpa using q.symm) h1
          · simp [leS, q] at h2)
    rw [List.nodup_iff_pairwise_ne, List.pairwise_iff_getElem]
    intro i j hi hj hij e
    have := key (j - i - 1) i j (by omega) hj hi
    rw [e, less_irr] at this
    cases this
end Go.Proofs.YthffeljicohpdaaGreatDoor
/- A map to bools that the call has made, used as a set of keys. -/
namespace Go.Proofs.YthffeljicohpdaaGreatDoor
set_option linter.unusedVariables false
set_option linter.unusedSimpArgs false
open Go.ChangeShapes Go.WideShapes Go.ChangeAt Go.RowKit Go.Deep
open Go.Maps (Keyed)

/-- Block b is a map of at most n entries that holds true at the keys of S and at no other. -/
def SetOf (P : Program) (w : World) (k e : TypeId) (b n : Nat) (S : List Value) : Prop :=
  ∃ D : DataW Unit, w.ownsMap P k (plainElem P e) b n D ∧ ∀ key kl, keyOf P k key = some kl → (key ∈ S → D.atKey kl (.lit (.bool false)) = .lit (.bool true)) ∧ (key ∉ S → D.atKey kl (.lit (.bool false)) = .lit (.bool false))
section
variable {P : Program} {w w' : World} {k e : TypeId} {b n : Nat} {S : List Value}
theorem SetOf.made (P : Program) (w : World) (k e : TypeId) : SetOf P (w.alloc (.map #[] 0)) k e w.heap.size 0 [] :=
  ⟨.map [], World.ownsMap_made w P k _, fun key kl _ => ⟨fun h => (by cases h), fun _ => rfl⟩⟩
theorem SetOf.lt (h : SetOf P w k e b n S) : b < w.heap.size := by
  obtain ⟨D, h1, _⟩ := h
  exact h1.lt
theorem SetOf.kept {row : Option Nat} (h : SetOf P w k e b n S) (hg : w.grownBy w' row) (hne : some b ≠ row) : SetOf P w' k e b n S := by
  obtain ⟨D, h1, h2⟩ := h
  exact ⟨D, h1.kept hg hne, h2⟩
theorem SetOf.up (h : SetOf P w k e b n S) (hb : Below w.heap.size w w') : SetOf P w' k e b n S := h.kept (grown_of_below hb) (by simp)
theorem SetOf.alloc (h : SetOf P w k e b n S) (o : Obj) : SetOf P (w.alloc o) k e b n S := h.up ((Below.refl _ _).alloc (Nat.le_refl _) o)
theorem plainElem_bool_inv (he : P.underlying e = some .bool) {v : Value} {x : Bool} {ps : List MemPlace} (h : plainElem (H := Unit) P e v = some (.lit (.bool x), ps)) : v = .bool x := by
  unfold plainElem at h
  rw [he] at h
  cases v <;> simp at h
  rw [h.1]
theorem SetOf.look {t : TypeId} (h : SetOf P w k e b n S) (K : Keyed P k) (ht : P.underlying t = some (.map k e)) (he : P.underlying e = some .bool) (hz : (zeroValue e).run P w = .ok (.bool false) w) {key : Value} {kl : Lit} (hkey : keyOf P k key = some kl) :
    (key ∈ S → (Instr.lookup t (.map (some b)) key false).run P w = .ok (.bool true) w) ∧ (key ∉ S → (Instr.lookup t (.map (some b)) key false).run P w = .ok (.bool false) w) := by
  obtain ⟨D, h1, h2⟩ := h
  obtain ⟨v, ps, hrun, hv⟩ := h1.lookup K ht hz (plainElem_bool he false) hkey
  obtain ⟨a1, a2⟩ := h2 key kl hkey
  refine ⟨fun hi => ?_, fun hi => ?_⟩
  · rw [a1 hi] at hv
    rw [hrun, plainElem_bool_inv he hv]
  · rw [a2 hi] at hv
    rw [hrun, plainElem_bool_inv he hv]
end
theorem wpList_set_add {P : Program} {ops : Array Oper} {rest : List Oper} {o : Oper} {a : Act} {Q : Exit → Act → World → Prop} {W : World} (hgd : o.guard = none) (M X V : Operand) (t : TypeId) (hop : o.op = Op.mapUpdate t M X V)
    {k e : TypeId} (K : Keyed P k) (ht : P.underlying t = some (.map k e)) (he : P.underlying e = some .bool) {b n : Nat} {S : List Value} (hm : a.eval M = .map (some b)) (h : SetOf P W k e b n S) (hn : n ≤ 16777216) {key : Value} (hx : a.eval X = key) (hv : a.eval V = .bool true)
    {kl : Lit} (hkey : keyOf P k key = some kl) (hK : ∀ w', SetOf P w' k e b (n + 1) (key :: S) → W.grownBy w' (some b) → wpList P ops Q rest (a.put o.dst undef) w') : wpList P ops Q (o :: rest) a W := by
  obtain ⟨D, h1, h2⟩ := h
  refine wpList_mapUpdate_own W hgd M X V t hop k e K ht _ b n D hm h1 (by unfold maxLen; omega) key (.bool true) kl hx hv hkey (.lit (.bool true)) [] (plainElem_bool he true) fun w' hown hg => hK w' ⟨_, hown, fun key' kl' hk' => ?_⟩ hg
  by_cases ek : kl' = kl
  · subst ek
    have e1 : key' = key := K.inj hk' hkey
    subst e1
    rw [Maps.atKey_put_same h1.isMap (K.key hkey)]
    exact ⟨fun _ => rfl, fun hne => absurd (List.mem_cons_self ..) hne⟩
  · have e1 : key' ≠ key := fun e2 => ek (by rw [e2, hkey] at hk'; injection hk' with hk'; exact hk'.symm)
    rw [Maps.atKey_put_other ek]
    obtain ⟨a1, a2⟩ := h2 key' kl' hk'
    refine ⟨fun hi => a1 ?_, fun hi => a2 (fun hc => hi (List.mem_cons_of_mem _ hc))⟩
    rcases List.mem_cons.1 hi with hi | hi
    · exact absurd hi e1
    · exact hi
end Go.Proofs.YthffeljicohpdaaGreatDoor
/- The walks through truth: no row twice, both sides' ways. -/
namespace Go.Proofs.YthffeljicohpdaaGreatDoor
set_option linter.unusedVariables false
set_option linter.unusedSimpArgs false
open Go.ChangeShapes Go.WideShapes Go.ChangeAt Go.RowKit Go.Deep
open Go.Maps (Keyed string_keyed)
open Go.WideMaps (keyOf_string_mk)
def strV (s : ByteArray) : Value := .string s
theorem strV_mem {s : ByteArray} {l : List ByteArray} : strV s ∈ l.map strV ↔ s ∈ l := by
  rw [List.mem_map]
  constructor
  · rintro ⟨x, hx, e⟩
    injection e with e
    subst e; exact hx
  · intro h; exact ⟨s, h, rfl⟩
end Go.Proofs.YthffeljicohpdaaGreatDoor
/- The walks through the reference's sort of texts, and its search for repeats. -/
namespace Go.Proofs.YthffeljicohpdaaGreatDoor
set_option linter.unusedVariables false
set_option linter.unusedSimpArgs false
open Go.ChangeShapes Go.WideShapes Go.ChangeAt Go.RowKit Go.Deep
/-- A part of a row. -/
theorem Recs.part {α : Type} {e : α → List Value} {s : Nat} {w : World} {b o : Nat} {l : List α} (h : Recs e s w (some ⟨b, o, none⟩) l) (i j : Nat) (hij : i ≤ j) (hj : j ≤ l.length) : Recs e s w (some ⟨b, o + i * s, none⟩) ((l.drop i).take (j - i)) := by
  refine ⟨h.1, by rw [flatMap_len h.1], fun hn => ?_⟩
  have hlen : ((l.drop i).take (j - i)).length = j - i := by rw [List.length_take, List.length_drop]; omega
  obtain ⟨b', o', e1, hb, hc⟩ := h.cells (by omega)
  injection e1 with e1
  injection e1 with e1 e2
  subst e1 e2
  refine ⟨b, o + i * s, rfl, hb, fun q u hu => ?_⟩
  have hq := (List.getElem?_eq_some_iff.1 hu).1
  rw [flatMap_len h.1, hlen] at hq
  have hs : 0 < s := by
    rcases Nat.eq_zero_or_pos s with h0 | h0
    · subst h0; omega
    · exact h0
  have hdm : q / s * s + q % s = q := Nat.div_add_mod' q s
  have hqs : q / s < j - i := Nat.div_lt_of_lt_mul (by rw [Nat.mul_comm]; exact hq)
  obtain ⟨x, hx⟩ := some_of_lt (l := (l.drop i).take (j - i)) (k := q / s) (by omega)
  have a1 := flatMap_at h.1 _ (q / s) x (q % s) hx (Nat.mod_lt q hs)
  rw [hdm, hu] at a1
  have hx2 : l[i + q / s]? = some x := by
    rw [List.getElem?_take, if_pos hqs, List.getElem?_drop] at hx; exact hx
  have := hc (i + q / s) x (q % s) u hx2 a1.symm
  rw [show o + i * s + q = o + (i + q / s) * s + q % s by rw [Nat.add_mul]; omega]
  exact this
theorem Owned.cap {α : Type} {e : α → List Value} {s : Nat} {E : TypeId} {w : World} {base : Nat} {A : Option Addr} {n c : Nat} {l : List α} (h : Owned e s E w base A n c l) : n ≤ c ∧ c ≤ 9223372036854775807 := by
  rcases h.2.2.2 with ⟨hv, h0⟩ | ⟨g, cap, cur, hv, _, _, hnc, hcap, _, _⟩
  · injection hv with _ _ e3
    subst e3 h0
    exact ⟨Nat.le_refl _, by omega⟩
  · injection hv with _ _ e3
    subst e3
    exact ⟨hnc, by unfold maxLen at hcap; omega⟩
theorem spec_l1OwnS {A : Option Addr} {N c : Nat} {l : List ByteArray} {w : World} (hN : l.length = N) (h : Strs w A l) (hz : N ≤ 16000000) :
    Calls Tryz.prog 74 #[.slice A N c] w fun e w' => ∃ A' c', e = .returned (.slice A' N c') ∧ Owned strE 1 9 w' w.heap.size A' N c' l ∧ Below w.heap.size w w' := by
  go_in
  go_wp2_with (first | (at_builtin; go_must ((refine wpList_append_recs Tryz.elStr strE_one rfl (.tmp 3) (.tmp 4) rfl rfl (Owned.empty (E := 9) strE_len w (Nat.le_refl _)) rfl (h.up (by (repeat' (first | (with_reducible exact Below.refl _ _) | (with_reducible assumption) | (with_reducible refine below_drewN ?_ _) | (with_reducible refine Below.drew ?_) | (with_reducible refine below_alloc ?_ _) | (with_reducible refine Below.alloc ?_ ?_ _) | (with_reducible refine Below.setCell ?_ ?_ _) | (with_reducible refine below_go ?_ (by with_reducible assumption)) | (with_reducible refine below_then (by with_reducible assumption) ?_ ?_) | go_size)))) hN ?_ (by decide) ?_ ?_; (focus (first | omega | (simp only [World.size_alloc]; done) | (simp only [World.size_alloc]; omega) | (simp; done) | (simp; omega))); (focus (first | omega | (simp only [World.size_alloc]; done) | (simp only [World.size_alloc]; omega) | (simp; done) | (simp; omega))); intro A2 c2 w2 ho2 hg2 hl2))))
  go_ret
  have hb := lit_app hg2
  rw [Nat.zero_add, List.nil_append] at ho2
  exact ⟨_, _, rfl, ho2, hb⟩
/-- Where x[1:] begins. -/
def tailOff (o s c : Nat) : Nat := if c = 1 then o else o + s
theorem Tryz.tailStrs (b o n c : Nat) (h1 : 1 ≤ n) (u : World) : (Instr.slice 44 (.slice (some ⟨b, o, none⟩) n c) (some (.int .i64 1)) none none).run Tryz.prog u = .ok (.slice (some ⟨b, tailOff o 1 c, none⟩) (n - 1) (c - 1)) u := by
  have e1 : Tryz.prog.underlying 44 = some (.slice (Tryz.prog.elem 44)) := by kernel_rfl
  have e2 : (sizeOf (Tryz.prog.elem 44)).run Tryz.prog u = .ok 1 u := by kernel_rfl
  rw [run_slice_l (P := Tryz.prog) (w := u) 44 (some ⟨b, o, none⟩) n c e1 .i64 1 (by omega) (by omega), e2]
  simp only [Result.andThen_ok, sliced, tailOff]
  by_cases hc : c = 1
  · rw [if_pos hc, if_pos (by omega)]; rfl
  · rw [if_neg hc, if_neg (by omega)]; rfl
theorem Recs.tail {α : Type} {e : α → List Value} {s : Nat} {w : World} {b o n c : Nat} {x : α} {l : List α} (h : Recs e s w (some ⟨b, o, none⟩) (x :: l)) (hn : l.length + 1 = n) (hc : n ≤ c) : Recs e s w (some ⟨b, tailOff o s c, none⟩) l := by
  by_cases h1 : c = 1
  · have : l = [] := List.eq_nil_of_length_eq_zero (by omega)
    subst this
    exact ⟨h.1, Rd.none_ _ _ _⟩
  · rw [tailOff, if_neg h1]
    have := h.part 1 (l.length + 1) (by omega) (by simp)
    rw [Nat.one_mul, List.drop_succ_cons, List.drop_zero, Nat.add_sub_cancel, List.take_of_length_le (Nat.le_refl _)] at this
    exact this
def slLen : Value → Nat
  | .slice _ n _ => n
  | _ => 0
theorem merge_left {x y : ByteArray} {a b : List ByteArray} (h : less y x = false) : List.merge (x :: a) (y :: b) leS = x :: List.merge a (y :: b) leS := by
  rw [List.cons_merge_cons_pos leS a b (by simp [leS, h])]
theorem merge_right {x y : ByteArray} {a b : List ByteArray} (h : less y x = true) : List.merge (x :: a) (y :: b) leS = y :: List.merge (x :: a) b leS := by
  rw [List.cons_merge_cons_neg leS a b (by simp [leS, h])]
end Go.Proofs.YthffeljicohpdaaGreatDoor
/- The walks through the generators of changes and methods. -/
namespace Go.Proofs.YthffeljicohpdaaGreatDoor
set_option linter.unusedVariables false
set_option linter.unusedSimpArgs false
open Go.ChangeShapes Go.WideShapes Go.ChangeAt Go.RowKit Go.Deep
theorem lit_strs2 (w : World) (t : TypeId) (l : List ByteArray) : Strs (w.alloc (.cells ⟨l.map Value.string⟩ t)) (some ⟨w.heap.size, 0, none⟩) l := by
  refine ⟨strE_len, by rw [flatMap_len strE_len], fun hn => ⟨w.heap.size, 0, rfl, by simp, fun j u hu => ?_⟩⟩
  have h := Box.new w (l.map Value.string) t
  rw [Nat.zero_add]
  refine h j u ?_
  rw [← hu]
  congr 1
  exact (flatMap_one Value.string l).symm
theorem cur_of {A B : Option Addr} {n c a p m d : Nat} {l : List ByteArray} {w0 w : World} (hS : Src w0 A n) (hb : Below w0.heap.size w0 w) (hp : w0.heap.size ≤ p) (hc : Cur w p A n c a) (ha : a ≤ 16777216) (hm : l.length = m) (hl : Strs w B l) (hm0 : 0 < m) (hm1 : m ≤ 200) (hne : ∀ b o, B = some ⟨b, o, none⟩ → b ≠ p) :
    Calls Tryz.prog 83 #[.pointer (some ⟨p, 0, none⟩), .slice B m d] w fun e w' => ∃ x ∈ l, e = .returned (.string x) ∧ Cur w' p A n c (a + 1) ∧ w.grownBy w' (some p) := by
  subst hm
  go_in
  go_wp2_with fail
  refine (cur_pick hS hb hp hc ha (by omega) (by omega)).mono ?_; rintro e w1 ⟨x, rfl, ⟨x0, x1⟩, hc1, hg1⟩
  obtain ⟨k, rfl⟩ := Int.eq_ofNat_of_zero_le x0
  have hk : k < l.length := by omega
  obtain ⟨b, o, y, rfl, hbb, hy, hcy⟩ := hl.at_str hk
  have hcz : w1.cell? ⟨b, o + k, none⟩ = some (.string y) := (hg1.cell_far ⟨b, o + k, none⟩ hbb (fun e => hne b o rfl (by injection e))).trans hcy
  have HY := Lib.hid hy
  clear hy hl hcy x1
  go_wp2
  go_ret
  exact ⟨y, List.mem_of_getElem? HY.out, rfl, hc1, hg1⟩
theorem chsRaw_pos : ∀ n : Nat, n < 9 → 3 ≤ n → 1 ≤ (chsRaw n).length := by decide +kernel
set_option maxRecDepth 100000 in
theorem cur_change {A : Option Addr} {n c a p N : Nat} {w0 w : World} (hS : Src w0 A n) (hb : Below w0.heap.size w0 w) (hp : w0.heap.size ≤ p) (hc : Cur w p A n c a) (ha : a ≤ 16777216) (hN : N ≤ 8) (hN3 : 3 ≤ N) :
    Calls Tryz.prog 85 #[.pointer (some ⟨p, 0, none⟩), .int .i64 N] w fun e w' => ∃ x, e = .returned (.string x) ∧ goodChange N x = true ∧ x.size ≤ 8 ∧ Cur w' p A n c (a + 1) ∧ w.grownBy w' (some p) := by
  have hpw := hc.lt
  go_in
  go_wp2_with fail
  refine (spec_l2All hN).mono ?_; rintro e w1 ⟨A1, c1, L, rfl, ho1, hperm, hb1⟩
  have hsm := chs_small hN hperm
  have hlen := hsm.1
  have hpos : 1 ≤ L.length := by rw [hperm.length_eq]; exact chsRaw_pos N (by omega) hN3
  have HSM := Lib.hid hsm.2
  have HPM := Lib.hid (fun x (hx : x ∈ L) => show goodChange N x = true from by
    have h1 := (hperm.mem_iff).1 hx
    rw [chsRaw, List.mem_filter] at h1
    exact h1.2)
  clear hperm hsm
  go_wp2_with fail
  refine (cur_pick hS (grown_below hb hp (grown_any hb1 _)) hp (hc.up hb1) ha (by omega) (by omega)).mono ?_; rintro e w2 ⟨x, rfl, ⟨x0, x1⟩, hc2, hg2⟩
  obtain ⟨k, rfl⟩ := Int.eq_ofNat_of_zero_le x0
  have hk : k < L.length := by omega
  obtain ⟨b, o, y, rfl, hbb, hy, hcy⟩ := (ho1.past hg2 hpw).recs.at_str hk
  have HY := Lib.hid (List.mem_of_getElem? hy)
  clear hy x1
  go_wp2
  go_ret
  exact ⟨y, rfl, HPM.out y HY.out, HSM.out y HY.out, hc2, grownBy_trans (grown_any hb1 _) hg2⟩
theorem goodM_of {nm : ByteArray} {st : Nat} {L : List ByteArray} (h1 : nameOk nm = true) (h2 : 3 ≤ st) (h3 : st ≤ 8) (h4 : 1 ≤ L.length) (h5 : L.length ≤ 40) (h6 : ∀ x ∈ L, goodChange st x = true) : goodM nm st L = true := by
  have e1 : inB (st : Int) 3 8 = true := by simp [inB]; omega
  have e2 : inB (L.length : Int) 1 40 = true := by simp [inB]; omega
  have e3 : allCh st L = true := by
    rw [allCh, List.all_eq_true]
    intro k hk
    obtain ⟨x, hx⟩ := some_of_lt (List.mem_range.1 hk)
    rw [okCh_at hx]
    exact h6 x (List.mem_of_getElem? hx)
  rw [goodM, h1, e1, e2, e3]; rfl
theorem hunt_one : ∀ n : Nat, n < 9 → 3 ≤ n → n % 2 = 0 → goodChange n ⟨#[45]⟩ = true ∧ goodChange n (⟨#[49]⟩ ++ dig1 n) = true ∧ goodChange n ⟨#[49, 50]⟩ = true := by decide +kernel
theorem hunt_two : ∀ n : Nat, n < 9 → 5 ≤ n → n % 2 = 1 → goodChange n (dig1 n) = true ∧ goodChange n ⟨#[49]⟩ = true ∧ goodChange n (⟨#[49, 50]⟩ ++ dig1 n) = true := by decide +kernel
set_option maxHeartbeats 2000000 in
set_option maxRecDepth 100000 in
theorem spec_l4Hunting {N : Nat} {s : ByteArray} {w : World} (hN : N ≤ 8) (hN4 : 4 ≤ N) (hs : goodChange N s = true) :
    Calls Tryz.prog 84 #[.int .i64 N, .string s] w fun e w' => ∃ A' c' L, e = .returned (.slice A' (2 * N) c') ∧ Owned strE 1 9 w' w.heap.size A' (2 * N) c' L ∧ (∀ x ∈ L, goodChange N x = true) ∧ Below w.heap.size w w' := by
  have HS := Lib.hid hs
  have hd1 : (dig1 (N : Int)).size = 1 := rfl
  clear hs
  rcases Nat.mod_two_eq_zero_or_one N with hpar | hpar
  · have HH := Lib.hid (hunt_one N (by omega) (by omega) hpar)
    have hI : ¬ ((N : Int) % 2 = 1) := by omega
    have hpe : ((N : Int) % 2 == 1) = false := by simpa using hI
    go_in
    go_wp2_with fail
    refine (spec_l1Num_1 (by omega) (by omega)).mono ?_; rintro e w1 ⟨rfl, hb1⟩
    go_wp2
    go_loopw [7, 8] (fun v i wr => ∃ (k : Nat) (A' : Option Addr) (c' : Nat) (O : List ByteArray), k ≤ N ∧ i = .int .i64 k ∧ v = .slice A' (2 * k) c' ∧ Hid (∀ x ∈ O, goodChange N x = true) ∧ Hid (Owned strE 1 9 wr w.heap.size A' (2 * k) c' O) ∧ Below w.heap.size w wr) (fun _ i _ => N - (intOf i).toNat)
    case atStart => exact ⟨0, none, 0, [], Nat.zero_le _, rfl, rfl, Lib.hid (fun s hs => by cases hs), Lib.hid (Owned.nil strE_len _ _ _), hb1⟩
    case round =>
      obtain ⟨k, A2, c2, O, hk, rfl, rfl, HZ, HO, hbr⟩ := hrel
      rename World => wr
      have hszr := hbr.size
      by_cases hlt : k < N
      · have HG2 := Lib.hid (show ∀ x ∈ O ++ [⟨#[45]⟩, ⟨#[49]⟩ ++ dig1 N], goodChange N x = true from fun x hx => by
          rcases List.mem_append.1 hx with hx | hx
          · exact HZ.out x hx
          · simp only [List.mem_cons, List.not_mem_nil, or_false] at hx
            rcases hx with rfl | rfl
            · exact HH.out.1
            · exact HH.out.2.1)
        have hl2 := lit_strs2 wr 9 [⟨#[45]⟩, ⟨#[49]⟩ ++ dig1 N]
        go_wp2_with (first | (at_builtin; go_must ((refine wpList_append_recs Tryz.elStr strE_one rfl (.tmp 22) (.tmp 25) rfl rfl (HO.out.alloc _) rfl hl2 rfl ?_ (by decide) ?_ ?_; (focus (first | omega | (simp only [World.size_alloc]; done) | (simp only [World.size_alloc]; omega) | (simp; done) | (simp; omega))); (simp; omega); intro A3 c3 w6 ho6 hg6 hl6; have hb6 : Below w.heap.size w w6 := (hbr.alloc hszr _).trans (grown_base hg6 (by simp; omega) (fun z hz => (HO.out.range z hz).1))))))
        go_roundw
        case rel => exact ⟨k + 1, A3, c3, O ++ [⟨#[45]⟩, ⟨#[49]⟩ ++ dig1 N], by omega, by go_num, by go_num, HG2, Lib.hid ho6, hb6⟩
        case measure => simp [intOf]; omega
      · obtain rfl : k = N := by omega
        obtain ⟨g, rfl, g0, g1, gc, gf⟩ := HO.out.at_ (by omega)
        have hOl := HO.out.len
        obtain ⟨y, hy⟩ := some_of_lt (l := O) (k := 2 * k - 1) (by omega)
        have c0 := gc (2 * k - 1) y 0 _ hy rfl
        have f0 := gf (2 * k - 1)
        simp only [Nat.mul_one, Nat.add_zero] at c0
        have pt := HO.out.put (k := 2 * k - 1) (j := 0) (x := s) (u := .string s) hy (by decide) rfl
        simp only [Nat.mul_one, Nat.add_zero] at pt
        have HPT := Lib.hid pt
        have HGS := Lib.hid (show ∀ x ∈ O.set (2 * k - 1) s, goodChange k x = true from fun x hx => by
          rcases List.mem_or_eq_of_mem_set hx with hx | hx
          · exact HZ.out x hx
          · rw [hx]; exact HS.out)
        have hJ : (2 : Int) * (k : Int) - 1 = ((2 * k - 1 : Nat) : Int) := by omega
        have hJ2 : ((2 * k : Nat) : Int) - 1 = ((2 * k - 1 : Nat) : Int) := by omega
        have hJ3 : ((2 * k - 1 : Nat) : Int) < ((2 * k : Nat) : Int) := by omega
        clear gc gf hy pt
        go_wp2
        go_ret
        exact ⟨_, _, O.set (2 * k - 1) s, rfl, HPT.out.1, HGS.out, hbr.grown HPT.out.2 hszr (fun z hz => by injection hz with hz; omega)⟩
  · have HH := Lib.hid (hunt_two N (by omega) (by omega) hpar)
    have hI : (N : Int) % 2 = 1 := by omega
    have hpe : ((N : Int) % 2 == 1) = true := by simpa using hI
    go_in
    go_wp2_with fail
    refine (spec_l1Num_1 (by omega) (by omega)).mono ?_; rintro e w1 ⟨rfl, hb1⟩
    go_wp2_with fail
    refine (spec_l1Num_1 (by omega) (by omega)).mono ?_; rintro e w2 ⟨rfl, hb2⟩
    have hB2 := below_go hb1 hb2
    go_wp2
    go_loopw [7, 8] (fun v i wr => ∃ (k : Nat) (A' : Option Addr) (c' : Nat) (O : List ByteArray), k ≤ N ∧ i = .int .i64 k ∧ v = .slice A' (2 * k) c' ∧ Hid (∀ x ∈ O, goodChange N x = true) ∧ Hid (Owned strE 1 9 wr w.heap.size A' (2 * k) c' O) ∧ Below w.heap.size w wr) (fun _ i _ => N - (intOf i).toNat)
    case atStart => exact ⟨0, none, 0, [], Nat.zero_le _, rfl, rfl, Lib.hid (fun s hs => by cases hs), Lib.hid (Owned.nil strE_len _ _ _), hB2⟩
    case round =>
      obtain ⟨k, A2, c2, O, hk, rfl, rfl, HZ, HO, hbr⟩ := hrel
      rename World => wr
      have hszr := hbr.size
      by_cases hlt : k < N
      · have HG2 := Lib.hid (show ∀ x ∈ O ++ [dig1 N, ⟨#[49]⟩], goodChange N x = true from fun x hx => by
          rcases List.mem_append.1 hx with hx | hx
          · exact HZ.out x hx
          · simp only [List.mem_cons, List.not_mem_nil, or_false] at hx
            rcases hx with rfl | rfl
            · exact HH.out.1
            · exact HH.out.2.1)
        have hl2 := lit_strs2 wr 9 [dig1 N, ⟨#[49]⟩]
        go_wp2_with (first | (at_builtin; go_must ((refine wpList_append_recs Tryz.elStr strE_one rfl (.tmp 22) (.tmp 25) rfl rfl (HO.out.alloc _) rfl hl2 rfl ?_ (by decide) ?_ ?_; (focus (first | omega | (simp only [World.size_alloc]; done) | (simp only [World.size_alloc]; omega) | (simp; done) | (simp; omega))); (simp; omega); intro A3 c3 w6 ho6 hg6 hl6; have hb6 : Below w.heap.size w w6 := (hbr.alloc hszr _).trans (grown_base hg6 (by simp; omega) (fun z hz => (HO.out.range z hz).1))))))
        go_roundw
        case rel => exact ⟨k + 1, A3, c3, O ++ [dig1 N, ⟨#[49]⟩], by omega, by go_num, by go_num, HG2, Lib.hid ho6, hb6⟩
        case measure => simp [intOf]; omega
      · obtain rfl : k = N := by omega
        obtain ⟨g, rfl, g0, g1, gc, gf⟩ := HO.out.at_ (by omega)
        have hOl := HO.out.len
        obtain ⟨y, hy⟩ := some_of_lt (l := O) (k := 2 * k - 1) (by omega)
        have c0 := gc (2 * k - 1) y 0 _ hy rfl
        have f0 := gf (2 * k - 1)
        simp only [Nat.mul_one, Nat.add_zero] at c0
        have pt := HO.out.put (k := 2 * k - 1) (j := 0) (x := s) (u := .string s) hy (by decide) rfl
        simp only [Nat.mul_one, Nat.add_zero] at pt
        have HPT := Lib.hid pt
        have HGS := Lib.hid (show ∀ x ∈ O.set (2 * k - 1) s, goodChange k x = true from fun x hx => by
          rcases List.mem_or_eq_of_mem_set hx with hx | hx
          · exact HZ.out x hx
          · rw [hx]; exact HS.out)
        have hJ : (2 : Int) * (k : Int) - 1 = ((2 * k - 1 : Nat) : Int) := by omega
        have hJ2 : ((2 * k : Nat) : Int) - 1 = ((2 * k - 1 : Nat) : Int) := by omega
        have hJ3 : ((2 * k - 1 : Nat) : Int) < ((2 * k : Nat) : Int) := by omega
        clear gc gf hy pt
        go_wp2
        go_ret
        exact ⟨_, _, O.set (2 * k - 1) s, rfl, HPT.out.1, HGS.out, hbr.grown HPT.out.2 hszr (fun z hz => by injection hz with hz; omega)⟩
end Go.Proofs.YthffeljicohpdaaGreatDoor
/- The change between two rows: the program's way and the reference's agree on whether there is one. -/
namespace Go.Proofs.YthffeljicohpdaaGreatDoor
set_option linter.unusedVariables false
set_option linter.unusedSimpArgs false
open Go.ChangeShapes Go.WideShapes Go.ChangeAt Go.RowKit Go.Deep
/-- From which places the bytes come, k places left from place i on, ps the places (from 1) that stay. -/
def idxK : Nat → Nat → List Int → List Nat
  | _, 0, _ => []
  | i, 1, _ => [i]
  | i, k + 2, ps => match ps with
    | [] => (i + 1) :: i :: idxK (i + 2) k []
    | x :: r => if x = (i : Int) + 1 then i :: idxK (i + 1) (k + 1) r else (i + 1) :: i :: idxK (i + 2) k (x :: r)
theorem idx_stay (i k : Nat) (r : List Int) : idxK i (k + 2) (((i : Int) + 1) :: r) = i :: idxK (i + 1) (k + 1) r := by rw [idxK, if_pos rfl]
theorem idx_swap {i k : Nat} {ps : List Int} (h : ∀ x ∈ ps, (i : Int) + 1 < x) : idxK i (k + 2) ps = (i + 1) :: i :: idxK (i + 2) k ps := by
  rcases ps with _ | ⟨x, r⟩
  · rw [idxK]
  · rw [idxK, if_neg (by have := h x (List.mem_cons_self ..); omega)]
theorem idxK_len : ∀ (k i : Nat) (ps : List Int), (idxK i k ps).length = k
  | 0, _, _ => rfl
  | 1, _, _ => rfl
  | k + 2, i, [] => by rw [idxK, List.length_cons, List.length_cons, idxK_len k]
  | k + 2, i, x :: r => by
    rw [idxK]
    split
    · rw [List.length_cons, idxK_len (k + 1)]
    · rw [List.length_cons, List.length_cons, idxK_len k]
/-- The program's way: k places left, i done, whether a pair has been swapped. -/
def btwK (a b : ByteArray) : Nat → Nat → Bool → Bool
  | 0, _, sw => sw
  | 1, i, sw => if PlainAid.bt a i = PlainAid.bt b i then sw else false
  | k + 2, i, sw => if PlainAid.bt a i = PlainAid.bt b i then btwK a b (k + 1) (i + 1) sw else
      if PlainAid.bt a i = PlainAid.bt b (i + 1) ∧ PlainAid.bt a (i + 1) = PlainAid.bt b i then btwK a b k (i + 2) true else false
def fromIdx (a b : ByteArray) (i k : Nat) (ps : List Int) : Prop := ∀ j, j < k → PlainAid.bt b (i + j) = PlainAid.bt a ((idxK i k ps).getD j 0)
theorem btw_iff {a b : ByteArray} (n : Nat) (hd : ∀ i j, i < j → j < n → PlainAid.bt a i ≠ PlainAid.bt a j) : ∀ (k i : Nat) (sw : Bool), i + k = n →
    (btwK a b k i sw = true ↔ ∃ ps ∈ fromK (i + 1) k, fromIdx a b i k ps ∧ (sw = true ∨ ps.length < k))
  | 0, i, sw, h => by
    simp only [btwK, fromK, List.mem_singleton, exists_eq_left, fromIdx, List.length_nil]
    constructor
    · intro h; exact ⟨fun j hj => absurd hj (by omega), .inl h⟩
    · rintro ⟨_, h | h⟩
      · exact h
      · omega
  | 1, i, sw, h => by
    simp only [btwK, fromK, List.mem_singleton, exists_eq_left, fromIdx, List.length_cons, List.length_nil]
    constructor
    · intro h
      split at h
      · rename_i e
        exact ⟨fun j hj => by obtain rfl : j = 0 := by omega
                              simp [idxK, e], .inl h⟩
      · cases h
    · rintro ⟨h1, h | h⟩
      · have := h1 0 (by omega)
        simp [idxK] at this
        rw [if_pos this.symm]; exact h
      · omega
  | k + 2, i, sw, h => by
    have ih1 := btw_iff (b := b) n hd (k + 1) (i + 1) sw (by omega)
    have ih2 := btw_iff (b := b) n hd k (i + 2) true (by omega)
    have hsplit : ∀ ps, ps ∈ fromK (i + 1) (k + 2) ↔ (∃ r ∈ fromK (i + 2) (k + 1), ps = ((i : Int) + 1) :: r) ∨ ps ∈ fromK (i + 3) k := fun ps => by
      rw [fromK, List.mem_append, List.mem_map]
      constructor
      · rintro (⟨r, hr, rfl⟩ | h)
        · exact .inl ⟨r, hr, by congr 1⟩
        · exact .inr h
      · rintro (⟨r, hr, rfl⟩ | h)
        · exact .inl ⟨r, hr, by congr 1⟩
        · exact .inr h
    rw [btwK]
    constructor
    · intro hb
      split at hb
      · rename_i e
        obtain ⟨r, hr, h1, h2⟩ := ih1.1 hb
        refine ⟨((i : Int) + 1) :: r, (hsplit _).2 (.inl ⟨r, hr, rfl⟩), fun j hj => ?_, ?_⟩
        · rw [idx_stay]
          rcases j with _ | j
          · simpa using e.symm
          · have := h1 j (by omega)
            rw [show i + (j + 1) = i + 1 + j by omega]
            simpa using this
        · rcases h2 with h2 | h2
          · exact .inl h2
          · right; rw [List.length_cons]; omega
      · split at hb
        · rename_i e
          obtain ⟨ps, hps, h1, h2⟩ := ih2.1 hb
          have hx := (fromK_row k (i + 3) ps hps)
          refine ⟨ps, (hsplit _).2 (.inr hps), fun j hj => ?_, .inr (by omega)⟩
          rw [idx_swap (fun x hx' => by have := hx.2 x hx'; omega)]
          rcases j with _ | _ | j
          · simpa using e.2.symm
          · simpa using e.1.symm
          · have := h1 j (by omega)
            rw [show i + (j + 1 + 1) = i + 2 + j by omega]
            simpa using this
        · cases hb
    · rintro ⟨ps, hps, h1, h2⟩
      rcases (hsplit ps).1 hps with ⟨r, hr, rfl⟩ | hps
      · rw [fromIdx, idx_stay] at h1
        have h0 := h1 0 (by omega)
        simp at h0
        rw [if_pos h0.symm]
        refine ih1.2 ⟨r, hr, fun j hj => ?_, ?_⟩
        · have := h1 (j + 1) (by omega)
          rw [show i + (j + 1) = i + 1 + j by omega] at this
          simpa using this
        · rcases h2 with h2 | h2
          · exact .inl h2
          · right; rw [List.length_cons] at h2; omega
      · have hx := (fromK_row k (i + 3) ps hps)
        rw [fromIdx, idx_swap (fun x hx' => by have := hx.2 x hx'; omega)] at h1
        have h0 := h1 0 (by omega)
        have h3 := h1 1 (by omega)
        simp at h0 h3
        have hne := hd i (i + 1) (by omega) (by omega)
        rw [if_neg (fun e => hne (by rw [e, h0])), if_pos ⟨h3.symm, h0.symm⟩]
        refine ih2.2 ⟨ps, hps, fun j hj => ?_, .inl rfl⟩
        have := h1 (j + 1 + 1) (by omega)
        rw [show i + (j + 1 + 1) = i + 2 + j by omega] at this
        simpa using this
/-! sws by fuel, for the kernel -/
def swsF (st : Int → Bool) (n : Nat) : Nat → Nat → List Int
  | 0, _ => []
  | f + 1, p => if p < n then (if st p then swsF st n f (p + 1) else (p : Int) :: swsF st n f (p + 2)) else []
theorem sws_F (st : Int → Bool) (n : Nat) : ∀ (f p : Nat), n ≤ p + f → sws st n p = swsF st n f p
  | 0, p, h => by rw [sws_end (by omega), swsF]
  | f + 1, p, h => by
    rw [swsF]
    by_cases hp : p < n
    · rw [if_pos hp]
      rcases hs : st p
      · rw [sws_swap hp hs, if_neg (by simp), sws_F st n f (p + 2) (by omega)]
      · rw [sws_stay hp hs, if_pos rfl, sws_F st n f (p + 1) (by omega)]
    · rw [sws_end hp, if_neg hp]
def idxC (n : Nat) (ps : List Int) : List Nat := (List.range n).map fun j => (cval (swsF (stays (ofPl ps)) n 9 1) j - 49).toNat
def okPs (n : Nat) (ps : List Int) : Bool := (idxC n ps == idxK 0 n ps) && (goodChange n (ofPl ps) == decide (ps.length < n))
theorem all_ok : ∀ n, n < 9 → 3 ≤ n → (fromK 1 n).all (okPs n) = true := of_decide_eq_true (by kernel_rfl)
end Go.Proofs.YthffeljicohpdaaGreatDoor
/- A change leads from one row to another just where the program finds one. -/
namespace Go.Proofs.YthffeljicohpdaaGreatDoor
set_option linter.unusedVariables false
set_option linter.unusedSimpArgs false
open Go.ChangeShapes Go.WideShapes Go.ChangeAt Go.RowKit Go.Deep
theorem nums_apply {a : ByteArray} (h : goodRow a = true) (c : ByteArray) : nums (applyR a c) = (rowV a.size (swaps a.size c)).map fun z => PlainAid.bt a (z - 49).toNat := by
  have hn := goodRow_n h
  have hr := goodRow_list h
  have e0 : nums (chRow a.size c) = rowV a.size (swaps a.size c) := by rw [chRow, nums_strOf (rowL_bytes (rowL_ch a.size c) (by rw [rowV_len]; omega))]
  have h2 := rowL_times hr (by rw [e0]; exact rowL_ch a.size c) (chRow_size a.size c).symm
  rw [applyR, timesS, nums_strOf (rowL_bytes h2 (by rw [timesL_len, chRow_size]; omega)), timesL, e0]
theorem apply_iff {a b : ByteArray} (ha : goodRow a = true) (e : a.size = b.size) {ps : List Int} (hps : ps ∈ fromK 1 a.size) : applyR a (ofPl ps) = b ↔ fromIdx a b 0 a.size ps := by
  have hn := goodRow_n ha
  have hok := all_ok a.size (by omega) (by omega)
  rw [List.all_eq_true] at hok
  have hok := hok ps hps
  rw [okPs, Bool.and_eq_true] at hok
  have hi : idxC a.size ps = idxK 0 a.size ps := by simpa using hok.1
  have hsw : swsF (stays (ofPl ps)) a.size 9 1 = swaps a.size (ofPl ps) := (sws_F _ _ _ _ (by omega)).symm
  have hat : ∀ j, j < a.size → (nums (applyR a (ofPl ps)))[j]? = some (PlainAid.bt a ((idxK 0 a.size ps).getD j 0)) := fun j hj => by
    rw [nums_apply ha, ← hi, rowV, List.map_map, List.getElem?_map, List.getElem?_range hj, idxC, hsw]
    simp [hj]
  constructor
  · intro h j hj
    have h1 := hat j hj
    rw [h, nums_at (by omega)] at h1
    injection h1 with h1
    rw [Nat.zero_add]; exact h1
  · intro h
    apply nums_inj
    apply List.ext_getElem?
    intro j
    by_cases hj : j < a.size
    · rw [hat j hj, nums_at (by omega)]
      have := h j hj
      rw [Nat.zero_add] at this
      rw [this]
    · rw [List.getElem?_eq_none (by rw [nums_len, applyR_size]; omega), List.getElem?_eq_none (by rw [nums_len]; omega)]
theorem mem_chs {n : Nat} {c : ByteArray} : c ∈ chsRaw n ↔ (∃ ps ∈ fromK 1 n, ofPl ps = c) ∧ goodChange n c = true := by
  rw [chsRaw, List.mem_filter, List.mem_map]
theorem row_ne {a : ByteArray} (ha : goodRow a = true) {i j : Nat} (hij : i < j) (hj : j < a.size) : PlainAid.bt a i ≠ PlainAid.bt a j := by
  have hp := (goodRow_list ha).1
  rw [List.nodup_iff_pairwise_ne, List.pairwise_iff_getElem] at hp
  have := hp i j (by rw [nums_len]; omega) (by rw [nums_len]; omega) hij
  have h1 := nums_at (s := a) (k := i) (by omega); have h2 := nums_at (s := a) (k := j) (by omega)
  rw [List.getElem?_eq_getElem (by rw [nums_len]; omega)] at h1 h2
  injection h1 with h1; injection h2 with h2
  rw [← h1, ← h2]; exact this
/-- Whether a change leads from a to b. -/
def btwB (a b : ByteArray) : Bool := btwK a b a.size 0 false
theorem btw_change {a b : ByteArray} (ha : goodRow a = true) (e : a.size = b.size) : btwB a b = true ↔ ∃ c ∈ chsRaw a.size, applyR a c = b := by
  have hn := goodRow_n ha
  have hok := all_ok a.size (by omega) (by omega)
  rw [List.all_eq_true] at hok
  rw [btwB, btw_iff (b := b) a.size (fun i j h1 h2 => row_ne ha h1 h2) a.size 0 false (by omega)]
  constructor
  · rintro ⟨ps, hps, h1, h2⟩
    have h3 := hok ps hps
    rw [okPs, Bool.and_eq_true] at h3
    have hl : ps.length < a.size := by rcases h2 with h2 | h2; cases h2; exact h2
    have hg : goodChange a.size (ofPl ps) = true := by
      have := h3.2
      rw [decide_eq_true hl] at this
      simpa using this
    exact ⟨ofPl ps, mem_chs.2 ⟨⟨ps, hps, rfl⟩, hg⟩, (apply_iff ha e hps).2 h1⟩
  · rintro ⟨c, hc, h1⟩
    obtain ⟨⟨ps, hps, rfl⟩, hg⟩ := mem_chs.1 hc
    have h3 := hok ps hps
    rw [okPs, Bool.and_eq_true, hg] at h3
    refine ⟨ps, hps, (apply_iff ha e hps).1 h1, .inr ?_⟩
    have := h3.2
    by_cases hl : ps.length < a.size
    · exact hl
    · rw [decide_eq_false hl] at this; simp at this
end Go.Proofs.YthffeljicohpdaaGreatDoor
/- The walks through changes, the program's side. -/
namespace Go.Proofs.YthffeljicohpdaaGreatDoor
set_option linter.unusedVariables false
set_option linter.unusedSimpArgs false
open Go.ChangeShapes Go.WideShapes Go.ChangeAt Go.RowKit Go.Deep
end Go.Proofs.YthffeljicohpdaaGreatDoor
/- The swaps of a change, the program's side; ChangeSign on both sides. -/
namespace Go.Proofs.YthffeljicohpdaaGreatDoor
set_option linter.unusedVariables false
set_option linter.unusedSimpArgs false
open Go.ChangeShapes Go.WideShapes Go.ChangeAt Go.RowKit Go.Deep
def hasI (l : List Int) (p : Int) : Bool := l.contains p
def signR (n : Int) (c : ByteArray) : Bool := goodChange n c && evenSwaps n.toNat c
end Go.Proofs.YthffeljicohpdaaGreatDoor
/- The walks through the row of a change, the reference's side. -/
namespace Go.Proofs.YthffeljicohpdaaGreatDoor
set_option linter.unusedVariables false
set_option linter.unusedSimpArgs false
open Go.ChangeShapes Go.WideShapes Go.ChangeAt Go.RowKit Go.Deep
theorem spec_l1Rounds {n : Nat} {w : World} (hn : n ≤ 8) :
    Calls Tryz.prog 86 #[.int .i64 n] w fun e w' => e = .returned (.string (roundsS n)) ∧ w = w' := by
  go_in
  go_wp2
  go_ret
  exact ⟨rfl, rfl⟩
set_option maxRecDepth 100000 in
theorem spec_l2Row {c : ByteArray} {n : Nat} {w : World} (hz : c.size ≤ 16777216) (hn : n ≤ 8) :
    Calls Tryz.prog 110 #[.int .i64 n, .string c] w fun e w' => e = .returned (.string (chRow n c)) ∧ Below w.heap.size w w' := by
  have hcv := run_bytes (P := Tryz.prog) (src := 9) (dst := 22) (e := 5) (roundsS n) Tryz.underlying9 Tryz.underlying22 Tryz.underlying5
  have hrs := rounds_size n (by omega)
  rw [hrs] at hcv
  have hE : Hid (chRow n c = strOfNums (rowV n (swaps n c))) := Lib.hid rfl
  go_in
  go_wp2_with (first | (go_at_call 86; refine (spec_l1Rounds hn).mono ?_; rintro e w' ⟨rfl, rfl⟩))
  have hr0 := bytesW_row w 5 (roundsS n)
  have hb0 := bytesW_below w 5 (roundsS n)
  rw [rowV_nil n (by omega)] at hr0
  clear hcv
  generalize grownCap w n 0 5 = cc
  go_loopw [6] (fun i wr => ∃ (k : Nat) (l : List Int), k ≤ n + 1 ∧ i = .int .i64 (k + 1 : Nat) ∧ Hid (swaps n c = l ++ sws (stays c) n (k + 1)) ∧ Hid (∀ x ∈ l, x + 2 ≤ ((k + 1 : Nat) : Int)) ∧ Hid (BRow wr w.heap.size (rowV n l)) ∧ Below w.heap.size w wr) (fun i _ => n + 2 - (intOf i).toNat)
  case atStart => exact ⟨0, [], by omega, rfl, Lib.hid rfl, Lib.hid (fun x hx => by cases hx), Lib.hid hr0, hb0⟩
  case round =>
    obtain ⟨k, l, hk, rfl, HK, HL, HR, hb⟩ := hrel
    by_cases hlt : k + 1 < n
    · have hI : I64 ((k : Int) + 1) := by unfold I64; omega
      rcases hs : stays c ((k : Int) + 1)
      · have e1 := Lib.hid (sws_swap hlt hs)
        have hrow := Lib.hid (rowV_step (p := k + 1) (by omega) hlt HL.out)
        have hlen := rowV_len n l
        have c1 := HR.out.2.1 k _ (List.getElem?_eq_getElem (by omega))
        have c2 := HR.out.2.1 (k + 1) _ (List.getElem?_eq_getElem (by omega))
        have f1 := HR.out.2.2 k (by omega)
        have f2 := HR.out.2.2 (k + 1) (by omega)
        have hR2 := Lib.hid ((HR.out.set (k := k) (by omega) (49 + ((k + 1 : Nat) : Int))).set (k := k + 1) (by rw [List.length_set]; omega) (48 + ((k + 1 : Nat) : Int)))
        go_wp2_with (first | (go_at_call 113; refine (spec_l2Stays hz hI).mono ?_; rintro e w' ⟨rfl, rfl⟩))
        go_roundw
        case rel => exact ⟨k + 2, l ++ [((k + 1 : Nat) : Int)], by omega, by go_num, Lib.hid (by rw [HK.out, e1.out, List.append_assoc]; rfl), Lib.hid (fun x hx => by
            rcases List.mem_append.1 hx with hx | hx
            · have := HL.out x hx; omega
            · rw [List.mem_singleton.1 hx]; omega), Lib.hid (by rw [hrow.out]; exact hR2.out), by (repeat' (first | (with_reducible exact Below.refl _ _) | (with_reducible assumption) | (with_reducible refine below_drewN ?_ _) | (with_reducible refine Below.drew ?_) | (with_reducible refine below_alloc ?_ _) | (with_reducible refine Below.alloc ?_ ?_ _) | (with_reducible refine Below.setCell ?_ ?_ _) | (with_reducible refine below_go ?_ (by with_reducible assumption)) | (with_reducible refine below_then (by with_reducible assumption) ?_ ?_) | go_size))⟩
        case measure => simp [intOf]; omega
      · have e1 := Lib.hid (sws_stay hlt hs)
        go_wp2_with (first | (go_at_call 113; refine (spec_l2Stays hz hI).mono ?_; rintro e w' ⟨rfl, rfl⟩))
        go_roundw
        case rel => exact ⟨k + 1, l, by omega, by go_num, Lib.hid (by rw [HK.out, e1.out]), Lib.hid (fun x hx => by have := HL.out x hx; omega), HR, hb⟩
        case measure => simp [intOf]; omega
    · have e1 := Lib.hid (show swaps n c = l by rw [HK.out, sws_end hlt, List.append_nil])
      have ht := HR.out.text (P := Tryz.prog) (src := 22) (e := 5) (dst := 9) n cc (rowV_len n l) Tryz.underlying22 Tryz.underlying5 Tryz.underlying9
      go_wp2
      go_ret
      rw [hE.out, e1.out]
      exact ⟨rfl, hb⟩
end Go.Proofs.YthffeljicohpdaaGreatDoor
/- The walk through the row of a change, the program's side. -/
namespace Go.Proofs.YthffeljicohpdaaGreatDoor
set_option linter.unusedVariables false
set_option linter.unusedSimpArgs false
open Go.ChangeShapes Go.WideShapes Go.ChangeAt Go.RowKit Go.Deep
end Go.Proofs.YthffeljicohpdaaGreatDoor
/- The walks through a row taken through another, both sides. -/
namespace Go.Proofs.YthffeljicohpdaaGreatDoor
set_option linter.unusedVariables false
set_option linter.unusedSimpArgs false
open Go.ChangeShapes Go.WideShapes Go.ChangeAt Go.RowKit Go.Deep
theorem spec_l1At {b : ByteArray} {k : Nat} {w : World} (hk : k < b.size) (hz : b.size ≤ 16777216) (hlo : 48 ≤ PlainAid.bt b k) :
    Calls Tryz.prog 70 #[.string b, .int .i64 ((k : Int) + 1)] w fun e w' => e = .returned (.int .i64 (PlainAid.bt b k - 48)) ∧ w = w' := by
  have hbb := PlainAid.get_bt b
  have hn1 := PlainAid.bt_le b k
  go_in
  go_wp2
  go_ret
  exact ⟨rfl, rfl⟩
set_option maxRecDepth 100000 in
theorem spec_l1Times {a b : ByteArray} {w : World} (ha : a.size ≤ 16777216) (hz : b.size ≤ 16777216) (hf : fits a b) :
    Calls Tryz.prog 98 #[.string a, .string b] w fun e w' => e = .returned (.string (timesS a b)) ∧ w = w' := by
  have hE : Hid (timesS a b = strOfNums (timesL a b)) := Lib.hid rfl
  have HF : Hid (fits a b) := hf
  clear hf
  go_in
  go_wp2
  go_loopw [5, 6] (fun v i wr => ∃ (k : Nat) (s : ByteArray), k ≤ b.size ∧ i = .int .i64 (k + 1 : Nat) ∧ v = .string s ∧ s.size = k ∧ Hid (s = strOfNums ((timesL a b).take k)) ∧ w = wr) (fun _ i _ => b.size + 1 - (intOf i).toNat)
  case atStart => exact ⟨0, _, Nat.zero_le _, rfl, rfl, rfl, Lib.hid rfl, rfl⟩
  case round =>
    obtain ⟨k, s, hk, rfl, rfl, hsk, HS, rfl⟩ := hrel
    by_cases hlt : k < b.size
    · have hr := HF.out k hlt
      obtain ⟨q, hq⟩ : ∃ q : Nat, PlainAid.bt b k = (q : Int) + 49 := ⟨(PlainAid.bt b k - 49).toNat, by omega⟩
      have hqa : q < a.size := by omega
      have hq2 : (PlainAid.bt b k - 49).toNat = q := by omega
      have hq3 : PlainAid.bt b k - 48 = (q : Int) + 1 := by omega
      have E := Lib.hid (show (timesL a b)[k]? = some (PlainAid.bt a q) by rw [timesL_at hlt, hq2])
      have hx := one_byte hqa
      have hxs : (a.extract q (q + 1)).size = 1 := by rw [hx]; rfl
      have hsz : (s ++ a.extract q (q + 1)).size = k + 1 := by rw [ByteArray.size_append, hxs, hsk]
      have HS2 := Lib.hid (show s ++ a.extract q (q + 1) = strOfNums ((timesL a b).take (k + 1)) by rw [HS.out, hx, take_succ_some E.out, strOf_append])
      have h48 : 48 ≤ PlainAid.bt b k := by omega
      clear hx
      go_wp2_with (first | (go_at_call 70; refine (spec_l1At hlt hz h48).mono ?_; rw [hq3]; rintro e w' ⟨rfl, rfl⟩))
      go_roundw
      case rel => exact ⟨k + 1, s ++ a.extract q (q + 1), by omega, by go_num, rfl, hsz, HS2, trivial⟩
      case measure => simp [intOf]; omega
    · obtain rfl : k = b.size := by omega
      have e1 := Lib.hid (show s = timesS a b by rw [HS.out, hE.out, List.take_of_length_le (by rw [timesL_len]; exact Nat.le_refl _)])
      go_wp2
      go_ret
      rw [e1.out]
      exact ⟨rfl, rfl⟩
end Go.Proofs.YthffeljicohpdaaGreatDoor
/- The walks through rows under changes, both sides. -/
namespace Go.Proofs.YthffeljicohpdaaGreatDoor
set_option linter.unusedVariables false
set_option linter.unusedSimpArgs false
open Go.ChangeShapes Go.WideShapes Go.ChangeAt Go.RowKit Go.Deep
theorem spec_l2Apply {a c : ByteArray} {w : World} (ha : a.size ≤ 8) (hz : c.size ≤ 16777216) :
    Calls Tryz.prog 99 #[.string a, .string c] w fun e w' => e = .returned (.string (applyR a c)) ∧ Below w.heap.size w w' := by
  have ha2 : a.size ≤ 16777216 := by omega
  have hcs : (chRow a.size c).size ≤ 16777216 := by rw [chRow_size]; omega
  have hft := chRow_fits ha c
  go_in
  go_wp2_with (first | (go_at_call 110; refine (spec_l2Row hz ha).mono ?_; rintro e w1 ⟨rfl, hb1⟩) | (go_at_call 98; refine (spec_l1Times ha2 hcs hft).mono ?_; rintro e w2 ⟨rfl, rfl⟩))
  go_ret
  exact ⟨rfl, hb1⟩
set_option maxRecDepth 100000 in
theorem spec_l4Lead {A : Option Addr} {N c : Nat} {a : ByteArray} {l : List ByteArray} {w : World} (ha : a.size ≤ 8) (hN : l.length = N) (h : Strs w A l) (hz : N ≤ 16000000) (hs : ∀ s ∈ l, s.size ≤ 16777216) :
    Calls Tryz.prog 89 #[.slice A N c, .string a] w fun e w' => ∃ A' c', e = .returned (.tuple #[.slice A' N c', .string (rAt a l N)]) ∧
      Owned strE 1 9 w' w.heap.size A' N c' (rowsL a l N) ∧ Below w.heap.size w w' := by
  subst hN
  have HS := Lib.hid hs
  clear hs
  go_in
  go_wp2
  go_loopw [6, 7, 13] (fun v r i wr => ∃ (k : Nat) (A' : Option Addr) (m c' : Nat), k ≤ l.length ∧ i = .int .i64 k ∧ r = .string (rAt a l k) ∧ v = .slice A' m c' ∧ m = k ∧ Owned strE 1 9 wr w.heap.size A' m c' (rowsL a l k) ∧ Below w.heap.size w wr) (fun _ _ i _ => l.length - (intOf i).toNat)
  case atStart => exact ⟨0, none, 0, 0, Nat.zero_le _, rfl, rfl, rfl, rfl, Owned.nil strE_len _ _ _, Below.refl _ _⟩
  case round =>
    obtain ⟨k, A', m, c', hk, rfl, rfl, rfl, rfl, ho, hb⟩ := hrel
    have HO := Lib.hid ho
    have hsz := hb.size
    clear ho
    by_cases hlt : m < l.length
    · obtain ⟨b1, o1, y, rfl, hbb, hy, hcy⟩ := (h.below hb (Nat.le_refl _)).at_str hlt
      have hys := HS.out y (List.mem_of_getElem? hy)
      have hra : (rAt a l m).size ≤ 8 := by rw [rAt_size]; exact ha
      have E := Lib.hid (rAt_succ (a := a) hy)
      have HT := Lib.hid (rowsL_succ a l m)
      clear hy
      go_wp2_with (first | (go_at_call 99; refine (spec_l2Apply hra hys).mono ?_; rw [← E.out]; rintro e w3 ⟨rfl, hb3⟩) | (at_builtin; go_must ((refine wpList_append_rec Tryz.elStr rfl (.tmp 17) (.tmp 19) rfl rfl (HO.out.alloc _) (rAt a l m) rfl (Box.at_ _ [.string (rAt a l m)] _ ?_) (strE_one _) ?_ (by decide) ?_ ?_; (focus (first | omega | (simp only [World.size_alloc]; done) | (simp only [World.size_alloc]; omega) | (simp; done) | (simp; omega))); (focus (first | omega | (simp only [World.size_alloc]; done) | (simp only [World.size_alloc]; omega) | (simp; done) | (simp; omega))); (focus (first | omega | (simp only [World.size_alloc]; done) | (simp only [World.size_alloc]; omega) | (simp; done) | (simp; omega))); intro A2 c2 w2 ho2 hg2 hb2; have hsz2 := hb2.size))))
      go_roundw
      case rel => exact ⟨m + 1, A2, m + 1, c2, by omega, by go_num, rfl, by go_num, rfl, by rw [HT.out]; exact ho2.up hb3, below_go ((hb.alloc hsz _).trans hb2) hb3⟩
      case measure => simp [intOf]; omega
    · obtain rfl : m = l.length := by omega
      go_wp2
      go_ret2
      exact ⟨_, _, rfl, HO.out, hb⟩
end Go.Proofs.YthffeljicohpdaaGreatDoor
/- The walks through rows: good rows, even rows. -/
namespace Go.Proofs.YthffeljicohpdaaGreatDoor
set_option linter.unusedVariables false
set_option linter.unusedSimpArgs false
open Go.ChangeShapes Go.WideShapes Go.ChangeAt Go.RowKit Go.Deep
end Go.Proofs.YthffeljicohpdaaGreatDoor
/- GoodRow of the program: the bits. -/
namespace Go.Proofs.YthffeljicohpdaaGreatDoor
set_option linter.unusedVariables false
set_option linter.unusedSimpArgs false
open Go.ChangeShapes Go.WideShapes Go.ChangeAt Go.RowKit Go.Deep
end Go.Proofs.YthffeljicohpdaaGreatDoor
/- The walks through the change between two rows, both sides. -/
namespace Go.Proofs.YthffeljicohpdaaGreatDoor
set_option linter.unusedVariables false
set_option linter.unusedSimpArgs false
open Go.ChangeShapes Go.WideShapes Go.ChangeAt Go.RowKit Go.Deep
theorem chs_len {n : Nat} (h : n ≤ 8) : (chsRaw n).length ≤ 34 := by
  rw [chsRaw]
  exact Nat.le_trans (List.length_filter_le _ _) (by rw [List.length_map]; exact fromK_le h 1)
theorem btw_eq {a b : ByteArray} {k i : Nat} {sw : Bool} (h : PlainAid.bt a i = PlainAid.bt b i) : btwK a b (k + 1) i sw = btwK a b k (i + 1) sw := by
  rcases k with _ | k
  · show (if PlainAid.bt a i = PlainAid.bt b i then sw else false) = sw
    exact if_pos h
  · rw [btwK, if_pos h]
theorem btw_no1 {a b : ByteArray} {i : Nat} {sw : Bool} (h : ¬ PlainAid.bt a i = PlainAid.bt b i) : btwK a b 1 i sw = false := by rw [btwK, if_neg h]
theorem btw_swap {a b : ByteArray} {k i : Nat} {sw : Bool} (h : ¬ PlainAid.bt a i = PlainAid.bt b i) (h1 : PlainAid.bt a i = PlainAid.bt b (i + 1)) (h2 : PlainAid.bt a (i + 1) = PlainAid.bt b i) : btwK a b (k + 2) i sw = btwK a b k (i + 2) true := by
  rw [btwK, if_neg h, if_pos ⟨h1, h2⟩]
theorem btw_no {a b : ByteArray} {k i : Nat} {sw : Bool} (h : ¬ PlainAid.bt a i = PlainAid.bt b i) (h1 : ¬ (PlainAid.bt a i = PlainAid.bt b (i + 1) ∧ PlainAid.bt a (i + 1) = PlainAid.bt b i)) : btwK a b (k + 2) i sw = false := by
  rw [btwK, if_neg h, if_neg h1]
end Go.Proofs.YthffeljicohpdaaGreatDoor
/- The walks through lists of rows: which are good, their signs. -/
namespace Go.Proofs.YthffeljicohpdaaGreatDoor
set_option linter.unusedVariables false
set_option linter.unusedSimpArgs false
open Go.ChangeShapes Go.WideShapes Go.ChangeAt Go.RowKit Go.Deep
end Go.Proofs.YthffeljicohpdaaGreatDoor
/- The walks through lists of changes between rows, truth by sorting, factorials, and extents. -/
namespace Go.Proofs.YthffeljicohpdaaGreatDoor
set_option linter.unusedVariables false
set_option linter.unusedSimpArgs false
open Go.ChangeShapes Go.WideShapes Go.ChangeAt Go.RowKit Go.Deep
theorem fact_le : ∀ k, k < 9 → fact k ≤ 40320 := of_decide_eq_true (by kernel_rfl)
theorem fact_one {n : Nat} (h : n ≤ 1) : fact n = 1 := by
  rcases n with _ | _ | n
  · rfl
  · rfl
  · omega
theorem spec_l1Fact {n : Nat} {w : World} (hn : n ≤ 8) :
    Calls Tryz.prog 101 #[.int .i64 n] w fun e w' => e = .returned (.int .i64 (fact n)) ∧ w = w' := by
  have HF : Hid (∀ k, fact (k + 1) = (k + 1) * fact k) := Lib.hid (fun _ => rfl)
  have hfn := fact_le n (by omega)
  go_in
  go_wp2
  go_loopw [0, 3] (fun i v wr => ∃ (k q : Nat), k ≤ n ∧ i = .int .i64 k ∧ v = .int .i64 q ∧ q ≤ 40320 ∧ Hid (q * fact k = fact n) ∧ w = wr) (fun i _ _ => (intOf i).toNat)
  case atStart => exact ⟨n, 1, Nat.le_refl _, rfl, rfl, by omega, Lib.hid (Nat.one_mul _), rfl⟩
  case round =>
    obtain ⟨k, q, hk, rfl, rfl, hq, HQ, rfl⟩ := hrel
    by_cases hlt : 1 < k
    · obtain ⟨m, rfl⟩ : ∃ m, k = m + 1 := ⟨k - 1, by omega⟩
      have hI : (1 : Int) < (m : Int) + 1 := by omega
      have h2 := Lib.hid (show q * (m + 1) * fact m = fact n by rw [Nat.mul_assoc, ← HF.out, HQ.out])
      have h3 : q * (m + 1) ≤ 40320 := Nat.le_trans (Nat.le_mul_of_pos_right _ (fact_pos m)) (by rw [h2.out]; exact hfn)
      have h4 : ((q : Int) * ((m : Int) + 1)) = ((q * (m + 1) : Nat) : Int) := by rw [Int.natCast_mul]; rfl
      have h5 : 0 ≤ (q : Int) * ((m : Int) + 1) ∧ (q : Int) * ((m : Int) + 1) ≤ 40320 := by rw [h4]; omega
      have H4 := Lib.hid h4
      obtain ⟨h6, h7⟩ := h5
      clear h4
      go_wp2
      go_roundw
      case rel => exact ⟨m, q * (m + 1), by omega, by first | go_num | rfl, by rw [H4.out], h3, Lib.hid h2.out, trivial⟩
      case measure => simp [intOf]
    · have hI : ¬ (1 : Int) < (k : Int) := by omega
      have e1 := Lib.hid (show q = fact n by rw [← HQ.out, fact_one (by omega : k ≤ 1), Nat.mul_one])
      go_wp2
      go_ret
      rw [← e1.out]
      exact ⟨rfl, rfl⟩
/-- Row k of a list of rows, cyclically. -/
def cyc (l : List ByteArray) (k : Nat) : ByteArray := l.getD (k % l.length) ByteArray.empty
def nextAt (l : List ByteArray) (k : Nat) : Bool := btwB (cyc l k) (cyc l (k + 1))
def nextsB (l : List ByteArray) : Bool := (List.range l.length).all (nextAt l)
theorem cyc_at {l : List ByteArray} {k : Nat} {x : ByteArray} (h : l[k]? = some x) : cyc l k = x := by
  have := (List.getElem?_eq_some_iff.1 h).1
  rw [cyc, Nat.mod_eq_of_lt this, List.getD, h]; rfl
theorem cyc_last {l : List ByteArray} {x : ByteArray} (h : l[0]? = some x) : cyc l l.length = x := by
  rw [cyc, Nat.mod_self, List.getD, h]; rfl
theorem btw_self (a : ByteArray) : ∀ (k i : Nat) (sw : Bool), btwK a a k i sw = sw
  | 0, _, _ => by rw [btwK]
  | k + 1, i, sw => by rw [btw_eq rfl, btw_self a k]
theorem nexts_one {l : List ByteArray} (h : l.length = 1) : nextsB l = false := by
  match l, h with
  | [x], _ =>
    show (List.all [0] (nextAt [x])) = false
    simp [nextAt, cyc, btwB, btw_self]
theorem goodRows_size {l : List ByteArray} (h : goodRows l = true) {i j : Nat} {x y : ByteArray} (hx : l[i]? = some x) (hy : l[j]? = some y) : x.size = y.size := by
  rw [goodRows, Bool.and_eq_true, List.all_eq_true] at h
  have key : ∀ (k : Nat) (z : ByteArray), l[k]? = some z → z.size = (l.getD 0 ByteArray.empty).size := fun k z hz => by
    have := h.1 k (List.mem_range.2 (List.getElem?_eq_some_iff.1 hz).1)
    rw [okRow, Bool.and_eq_true, List.getD, hz] at this
    simpa using this.2
  rw [key i x hx, key j y hy]
/-! extents -/
def smallR (l : List ByteArray) : Bool := goodRows l && (decide (0 < l.length) && decide ((l.getD 0 ByteArray.empty).size ≤ 6))
def extR (l : List ByteArray) : Bool := smallR l && (nextsB l && (nodupB l && (l.length == fact (l.getD 0 ByteArray.empty).size)))
theorem small_t {l : List ByteArray} (h : smallR l = true) : goodRows l = true ∧ 0 < l.length ∧ ∀ x, l[0]? = some x → x.size ≤ 6 := by
  simp only [smallR, Bool.and_eq_true, decide_eq_true_eq] at h
  exact ⟨h.1, h.2.1, fun x hx => by have := h.2.2; rw [List.getD, hx] at this; exact this⟩
end Go.Proofs.YthffeljicohpdaaGreatDoor
/- Rows that are taken out of rounds bell by bell, in plain Lean. -/
namespace Go.Proofs.YthffeljicohpdaaGreatDoor
set_option linter.unusedVariables false
set_option linter.unusedSimpArgs false
theorem nums_data (s : ByteArray) : nums s = s.data.toList.map fun b => (b.toNat : Int) := by
  apply List.ext_getElem
  · rw [nums_len, List.length_map, Array.length_toList]; rfl
  · intro j h1 h2
    have hj : j < s.size := by rwa [nums_len] at h1
    have h := nums_at hj
    rw [List.getElem?_eq_getElem h1] at h
    injection h with h
    rw [h, PlainAid.bt, dif_pos hj, List.getElem_map, Array.getElem_toList]
    rfl
theorem nums_app (a b : ByteArray) : nums (a ++ b) = nums a ++ nums b := by
  rw [nums_data, nums_data, nums_data, ByteArray.data_append, Array.toList_append, List.map_append]
theorem nums_ext (s : ByteArray) (i j : Nat) : nums (s.extract i j) = ((nums s).drop i).take (j - i) := by
  rw [nums_data, nums_data, Lib.extract_data, List.map_take, List.map_drop]
theorem cut_perm {R O : List Int} {i : Nat} (h : i < R.length) : ((O ++ [R[i]]) ++ (R.take i ++ R.drop (i + 1))).Perm (O ++ R) := by
  rw [List.append_assoc]
  apply List.Perm.append_left
  have e : R = R.take i ++ R[i] :: R.drop (i + 1) := by rw [← List.drop_eq_getElem_cons h, List.take_append_drop]
  rw [List.singleton_append]
  conv => rhs; rw [e]
  exact List.perm_middle.symm
/-- What is out and what is left are together the bells of rounds. -/
def RowSt (n : Nat) (out rest : ByteArray) : Prop := (nums out ++ nums rest).Perm (nums (roundsS n))
theorem RowSt.sizes {n : Nat} {out rest : ByteArray} (h : RowSt n out rest) (hn : n ≤ 8) : out.size + rest.size = n := by
  have := h.length_eq
  rw [List.length_append, nums_len, nums_len, nums_len, rounds_size n (by omega)] at this
  exact this
theorem RowSt.step {n i : Nat} {out rest : ByteArray} (h : RowSt n out rest) (hi : i < rest.size) : RowSt n (out ++ rest.extract i (i + 1)) (rest.extract 0 i ++ rest.extract (i + 1) rest.size) := by
  have hl : i < (nums rest).length := by rw [nums_len]; exact hi
  have e1 : nums (rest.extract i (i + 1)) = [(nums rest)[i]] := by
    rw [nums_ext, List.drop_eq_getElem_cons hl, show i + 1 - i = 0 + 1 by omega, List.take_succ_cons, List.take_zero]
  have e2 : nums (rest.extract 0 i) = (nums rest).take i := by rw [nums_ext, List.drop_zero, Nat.sub_zero]
  have e3 : nums (rest.extract (i + 1) rest.size) = (nums rest).drop (i + 1) := by
    rw [nums_ext, List.take_of_length_le]
    rw [List.length_drop, nums_len]
    exact Nat.le_refl _
  rw [RowSt, nums_app, nums_app, e1, e2, e3]
  exact (cut_perm hl).trans h
theorem RowSt.done {n : Nat} {out rest : ByteArray} (h : RowSt n out rest) (h3 : 3 ≤ n) (h8 : n ≤ 8) (h0 : rest.size = 0) : goodRow out = true ∧ out.size = n := by
  have hs := h.sizes h8
  have e : nums rest = [] := List.length_eq_zero_iff.1 (by rw [nums_len]; exact h0)
  have hp : (nums out).Perm (nums (roundsS n)) := by rw [RowSt, e, List.append_nil] at h; exact h
  have hr := goodRow_list (good_rounds n (by omega) h3)
  have ho : out.size = n := by omega
  refine ⟨goodRow_of (by omega) ⟨hp.nodup_iff.2 hr.1, fun z hz => ?_⟩, ho⟩
  have := hr.2 z (hp.mem_iff.1 hz)
  rw [hp.length_eq]
  exact this
theorem RowSt.start (n : Nat) : RowSt n ⟨#[]⟩ (roundsS n) := by
  have e : nums (⟨#[]⟩ : ByteArray) = [] := List.length_eq_zero_iff.1 (by rw [nums_len]; rfl)
  rw [RowSt, e, List.nil_append]
theorem div_lt_of {k f r : Nat} (h : k < r * f) (_hf : 0 < f) : k / f < r := Nat.div_lt_of_lt_mul (by rw [Nat.mul_comm]; exact h)
end Go.Proofs.YthffeljicohpdaaGreatDoor
/- Plain laws of closures: the rows that some rows generate, breadth first. -/
namespace Go.Proofs.YthffeljicohpdaaGreatDoor
set_option linter.unusedVariables false
set_option linter.unusedSimpArgs false
open Go.ChangeShapes Go.WideShapes Go.ChangeAt Go.RowKit Go.Deep
/-- A row that is good and of a stage. -/
def RowN (n : Nat) (s : ByteArray) : Prop := goodRow s = true ∧ s.size = n
theorem RowN.times {n : Nat} {a b : ByteArray} (h : RowN n a) (g : RowN n b) : RowN n (timesS a b) :=
  ⟨good_times h.1 g.1 (by rw [h.2, g.2]), by rw [timesS, strOfNums_size, timesL_len, g.2]⟩
theorem RowN.st {n : Nat} {a : ByteArray} (h : RowN n a) : 3 ≤ n ∧ n ≤ 8 := by have := goodRow_n h.1; rw [h.2] at this; exact this
theorem rowN_rounds {n : Nat} (h3 : 3 ≤ n) (h8 : n ≤ 8) : RowN n (roundsS n) := ⟨good_rounds n (by omega) h3, rounds_size n (by omega)⟩
theorem rowN_fits {n : Nat} {a b : ByteArray} (h : RowN n a) (g : RowN n b) : fits a b := fits_good g.1 (by rw [h.2, g.2])
theorem rowN_inj {n : Nat} {a b : ByteArray} (h : RowN n a) (g : RowN n b) (e : place a = place b) : a = b := place_inj h.1 g.1 (by rw [h.2, g.2]) e
theorem rowN_place {n : Nat} {a : ByteArray} (h : RowN n a) : place a < fact n := by have := place_lt a; rwa [h.2] at this
theorem fact_le8 : ∀ {n : Nat}, n ≤ 8 → fact n ≤ 40320 := fun {n} h => by
  have : ∀ n, n < 9 → fact n ≤ 40320 := of_decide_eq_true (by kernel_rfl)
  exact this n (by omega)
/-- Different rows of a stage are at most so many. -/
theorem rows_le {n : Nat} {l : List ByteArray} (hn : l.Nodup) (hg : ∀ s ∈ l, RowN n s) : l.length ≤ fact n := by
  have h1 : (l.map place).Nodup := by
    rw [List.nodup_iff_pairwise_ne, List.pairwise_map]
    rw [List.nodup_iff_pairwise_ne] at hn
    exact hn.imp_of_mem fun {x y} hx hy hne e => hne (rowN_inj (hg x hx) (hg y hy) e)
  have h2 := h1.length_le_of_subset (l₂ := List.range (fact n)) (fun p hp => by
    obtain ⟨s, hs, rfl⟩ := List.mem_map.1 hp
    exact List.mem_range.2 (rowN_place (hg s hs)))
  rw [List.length_map, List.length_range] at h2
  exact h2
/-- As many rows as there are are all of them. -/
theorem rows_all {n : Nat} {l : List ByteArray} (hn : l.Nodup) (hg : ∀ s ∈ l, RowN n s) (hl : fact n ≤ l.length) {x : ByteArray} (hx : RowN n x) : x ∈ l := by
  rcases Classical.em (x ∈ l) with h | h
  · exact h
  · have := rows_le (n := n) (l := x :: l) (List.nodup_cons.2 ⟨h, hn⟩) (fun s hs => by
      rcases List.mem_cons.1 hs with rfl | hs
      · exact hx
      · exact hg s hs)
    rw [List.length_cons] at this
    omega
/-- A product that is new comes last. -/
def inL (L : List ByteArray) (s : ByteArray) : Bool := L.any fun y => decide (y = s)
theorem inL_iff {L : List ByteArray} {s : ByteArray} : inL L s = true ↔ s ∈ L := by
  rw [inL, List.any_eq_true]
  constructor
  · rintro ⟨y, hy, e⟩
    rw [← of_decide_eq_true e]; exact hy
  · intro h
    exact ⟨s, h, decide_eq_true rfl⟩
def clAdd (x : ByteArray) (L : List ByteArray) (g : ByteArray) : List ByteArray := if inL L (timesS x g) = true then L else L ++ [timesS x g]
theorem clAdd_in {x g : ByteArray} {L : List ByteArray} (h : timesS x g ∈ L) : clAdd x L g = L := by rw [clAdd, if_pos (inL_iff.2 h)]
theorem clAdd_new {x g : ByteArray} {L : List ByteArray} (h : timesS x g ∉ L) : clAdd x L g = L ++ [timesS x g] := by rw [clAdd, if_neg (fun e => h (inL_iff.1 e))]
def clPart (gs : List ByteArray) (x : ByteArray) (j : Nat) (L : List ByteArray) : List ByteArray := (gs.take j).foldl (clAdd x) L
theorem clPart_0 (gs : List ByteArray) (x : ByteArray) (L : List ByteArray) : clPart gs x 0 L = L := rfl
theorem clPart_succ {gs : List ByteArray} {x g : ByteArray} {j : Nat} (L : List ByteArray) (h : gs[j]? = some g) : clPart gs x (j + 1) L = clAdd x (clPart gs x j L) g := by
  rw [clPart, take_succ_some h, List.foldl_append]; rfl
def clAt (gs : List ByteArray) (r : ByteArray) : Nat → List ByteArray
  | 0 => [r]
  | k + 1 => match (clAt gs r k)[k]? with
    | some x => clPart gs x gs.length (clAt gs r k)
    | none => clAt gs r k
theorem clAt_more {gs : List ByteArray} {r x : ByteArray} {k : Nat} (h : (clAt gs r k)[k]? = some x) : clAt gs r (k + 1) = clPart gs x gs.length (clAt gs r k) := by rw [clAt, h]
theorem clAt_stop {gs : List ByteArray} {r : ByteArray} {k : Nat} (h : (clAt gs r k).length ≤ k) : clAt gs r (k + 1) = clAt gs r k := by
  rw [clAt, List.getElem?_eq_none_iff.2 h]
/-- All that some rows generate. -/
def clF (n : Nat) (gs : List ByteArray) : List ByteArray := clAt gs (roundsS n) (fact n)
theorem clAdd_pre (x g : ByteArray) (L : List ByteArray) : L <+: clAdd x L g := by
  by_cases h : timesS x g ∈ L
  · rw [clAdd_in h]; exact List.prefix_refl _
  · rw [clAdd_new h]; exact List.prefix_append _ _
theorem foldl_pre (x : ByteArray) : ∀ (gs L : List ByteArray), L <+: gs.foldl (clAdd x) L
  | [], L => List.prefix_refl _
  | g :: gs, L => (clAdd_pre x g L).trans (foldl_pre x gs _)
theorem clPart_pre (gs : List ByteArray) (x : ByteArray) (j : Nat) (L : List ByteArray) : L <+: clPart gs x j L := foldl_pre x _ L
theorem clPart_step (gs : List ByteArray) (x : ByteArray) (L : List ByteArray) (j : Nat) : clPart gs x j L <+: clPart gs x (j + 1) L := by
  rcases h : gs[j]? with _ | g
  · rw [clPart, clPart, List.take_of_length_le (by rw [List.getElem?_eq_none_iff] at h; omega), List.take_of_length_le (by rw [List.getElem?_eq_none_iff] at h; omega)]
    exact List.prefix_refl _
  · rw [clPart_succ L h]; exact clAdd_pre _ _ _
theorem clPart_mono (gs : List ByteArray) (x : ByteArray) (L : List ByteArray) (i : Nat) : ∀ d, clPart gs x i L <+: clPart gs x (i + d) L
  | 0 => List.prefix_refl _
  | d + 1 => (clPart_mono gs x L i d).trans (clPart_step gs x L (i + d))
theorem clAt_step (gs : List ByteArray) (r : ByteArray) (k : Nat) : clAt gs r k <+: clAt gs r (k + 1) := by
  rcases h : (clAt gs r k)[k]? with _ | x
  · rw [clAt_stop (List.getElem?_eq_none_iff.1 h)]; exact List.prefix_refl _
  · rw [clAt_more h]; exact clPart_pre _ _ _ _
theorem clAt_mono (gs : List ByteArray) (r : ByteArray) (k : Nat) : ∀ d, clAt gs r k <+: clAt gs r (k + d)
  | 0 => List.prefix_refl _
  | d + 1 => (clAt_mono gs r k d).trans (clAt_step gs r (k + d))
theorem clAt_stays {gs : List ByteArray} {r : ByteArray} {k : Nat} (h : (clAt gs r k).length ≤ k) : ∀ d, clAt gs r (k + d) = clAt gs r k
  | 0 => rfl
  | d + 1 => by
    have e := clAt_stays h d
    rw [← Nat.add_assoc, clAt_stop (by rw [e]; omega), e]
/-! what the rows are like -/
def ClOk (n : Nat) (L : List ByteArray) : Prop := L.Nodup ∧ ∀ s ∈ L, RowN n s
theorem ClOk.add {n : Nat} {x g : ByteArray} {L : List ByteArray} (h : ClOk n L) (hx : RowN n x) (hg : RowN n g) : ClOk n (clAdd x L g) := by
  by_cases e : timesS x g ∈ L
  · rw [clAdd_in e]; exact h
  · rw [clAdd_new e]
    refine ⟨List.nodup_append.2 ⟨h.1, by simp, fun a ha b hb he => e (by rw [← List.mem_singleton.1 hb, ← he]; exact ha)⟩, fun s hs => ?_⟩
    rcases List.mem_append.1 hs with hs | hs
    · exact h.2 s hs
    · rw [List.mem_singleton.1 hs]; exact hx.times hg
theorem ClOk.fold {n : Nat} {x : ByteArray} (hx : RowN n x) : ∀ (gs L : List ByteArray), (∀ g ∈ gs, RowN n g) → ClOk n L → ClOk n (gs.foldl (clAdd x) L)
  | [], _, _, h => h
  | g :: gs, L, hg, h => ClOk.fold hx gs _ (fun y hy => hg y (List.mem_cons_of_mem _ hy)) (h.add hx (hg g (List.mem_cons_self ..)))
theorem ClOk.part {n : Nat} {x : ByteArray} {gs L : List ByteArray} (h : ClOk n L) (hx : RowN n x) (hg : ∀ g ∈ gs, RowN n g) (j : Nat) : ClOk n (clPart gs x j L) := ClOk.fold hx _ _ (fun g h => hg g (List.mem_of_mem_take h)) h
theorem clAt_ok {n : Nat} {gs : List ByteArray} {r : ByteArray} (hr : RowN n r) (hg : ∀ g ∈ gs, RowN n g) : ∀ k, ClOk n (clAt gs r k)
  | 0 => ⟨by simp [clAt], fun s hs => by rw [List.mem_singleton.1 hs]; exact hr⟩
  | k + 1 => by
    have h := clAt_ok hr hg k
    rcases e : (clAt gs r k)[k]? with _ | x
    · rw [clAt_stop (List.getElem?_eq_none_iff.1 e)]; exact h
    · rw [clAt_more e]
      exact h.part (h.2 x (List.mem_of_getElem? e)) hg _
theorem ClOk.le {n : Nat} {L : List ByteArray} (h : ClOk n L) : L.length ≤ fact n := rows_le h.1 h.2
section
variable {n : Nat} {gs : List ByteArray} {r : ByteArray}
theorem clF_ok (h3 : 3 ≤ n) (h8 : n ≤ 8) (hg : ∀ g ∈ gs, RowN n g) : ClOk n (clF n gs) := clAt_ok (rowN_rounds h3 h8) hg _
/-- Behind the last round. -/
theorem clF_end (h3 : 3 ≤ n) (h8 : n ≤ 8) (hg : ∀ g ∈ gs, RowN n g) {k : Nat} (h : (clAt gs (roundsS n) k).length = k) : clF n gs = clAt gs (roundsS n) k := by
  have h1 : k ≤ fact n := by have := (clAt_ok (rowN_rounds h3 h8) hg k).le; omega
  obtain ⟨d, e⟩ : ∃ d, fact n = k + d := ⟨fact n - k, by omega⟩
  rw [clF, e, clAt_stays (by omega)]
theorem clF_pre (h3 : 3 ≤ n) (h8 : n ≤ 8) (hg : ∀ g ∈ gs, RowN n g) (k : Nat) : clAt gs (roundsS n) k <+: clF n gs := by
  by_cases h1 : k ≤ fact n
  · obtain ⟨d, e⟩ : ∃ d, fact n = k + d := ⟨fact n - k, by omega⟩
    rw [clF, e]
    exact clAt_mono _ _ _ _
  · obtain ⟨d, e⟩ : ∃ d, k = fact n + d := ⟨k - fact n, by omega⟩
    rw [e, clAt_stays (clAt_ok (rowN_rounds h3 h8) hg _).le]
    exact List.prefix_refl _
theorem clPart_F (h3 : 3 ≤ n) (h8 : n ≤ 8) (hg : ∀ g ∈ gs, RowN n g) {k : Nat} {x : ByteArray} (hx : (clAt gs (roundsS n) k)[k]? = some x) {j : Nat} (hj : j ≤ gs.length) : clPart gs x j (clAt gs (roundsS n) k) <+: clF n gs := by
  obtain ⟨d, e⟩ : ∃ d, gs.length = j + d := ⟨gs.length - j, by omega⟩
  have h1 := clPart_mono gs x (clAt gs (roundsS n) k) j d
  rw [← e, ← clAt_more hx] at h1
  exact h1.trans (clF_pre h3 h8 hg _)
theorem clAt_first (k : Nat) : (clAt gs r k)[0]? = some r := by
  have := clAt_mono gs r 0 k
  rw [Nat.zero_add] at this
  obtain ⟨t, ht⟩ := this
  rw [← ht]; rfl
theorem clAt_pos (k : Nat) : 0 < (clAt gs r k).length := (List.getElem?_eq_some_iff.1 (clAt_first (gs := gs) (r := r) k)).1
end
end Go.Proofs.YthffeljicohpdaaGreatDoor
/- The walks through draws of rows and of lists of rows. -/
namespace Go.Proofs.YthffeljicohpdaaGreatDoor
set_option linter.unusedVariables false
set_option linter.unusedSimpArgs false
open Go.ChangeShapes Go.WideShapes Go.ChangeAt Go.RowKit Go.Deep
set_option maxRecDepth 100000 in
theorem cur_pickL {A : Option Addr} {n c a p : Nat} {N : Int} {w0 w : World} (hS : Src w0 A n) (hb : Below w0.heap.size w0 w) (hp : w0.heap.size ≤ p) (hc : Cur w p A n c a) (ha : a ≤ 10000000) (hN : N ≤ 50000) (hN0 : -1000 ≤ N) :
    Calls Tryz.prog 48 #[.pointer (some ⟨p, 0, none⟩), .int .i64 N] w fun e w' => ∃ x : Int, e = .returned (.int .i64 x) ∧ upTo N x ∧ Cur w' p A n c (a + 2) ∧ w.grownBy w' (some p) := by
  by_cases h2 : N ≤ 200
  · refine (cur_pick hS hb hp hc (by omega) h2 hN0).mono ?_; rintro e w1 ⟨x, rfl, hx, hc1, hg1⟩
    exact ⟨x, rfl, hx, hc1.mono (by omega), hg1⟩
  · have G : Hid (∀ u : World, w.grownBy u (some p) → Below w0.heap.size w0 u) := Lib.hid (fun u hg => grown_below hb hp hg)
    have hI : (200 : Int) < N := by omega
    have hI1 : ¬ N ≤ 1 := by omega
    have hN1 : ¬ N = 0 := by omega
    go_in
    go_wp2_with fail
    refine (cur_next hS hb hp hc (by omega)).mono ?_; rintro e w1 ⟨x, rfl, x0, x1, hc1, hg1⟩
    go_wp2_with fail
    refine (cur_next hS (G.out _ hg1) hp hc1 (by omega)).mono ?_; rintro e w2 ⟨y, rfl, y0, y1, hc2, hg2⟩
    have hm : (x * 256 + y).tmod N = (x * 256 + y) % N := Int.tmod_eq_emod_of_nonneg (by omega)
    have m0 := Int.emod_nonneg (x * 256 + y) hN1
    have m1 := Int.emod_lt_of_pos (x * 256 + y) (show 0 < N by omega)
    go_wp2
    go_ret
    exact ⟨_, rfl, ⟨m0, .inl m1⟩, hc2, grownBy_trans hg1 hg2⟩
def txLen : Value → Nat
  | .string s => s.size
  | _ => 0
set_option maxHeartbeats 1000000 in
set_option maxRecDepth 100000 in
theorem spec_RowOf {n k : Nat} {w : World} (h3 : 3 ≤ n) (h8 : n ≤ 8) (hk : k < fact n) :
    Calls Tryz.prog 100 #[.int .i64 n, .int .i64 k] w fun e w' => ∃ r, e = .returned (.tuple #[.string r, .bool true]) ∧ RowN n r ∧ Below w.heap.size w w' := by
  have hfn := fact_le8 h8
  have HF : Hid (∀ k, k ≤ 8 → fact k ≤ 40320) := Lib.hid (fun k hk => fact_le8 hk)
  have HP : Hid (∀ k, 0 < fact k) := Lib.hid fact_pos
  have HM : Hid (∀ k, 0 < k → fact k = k * fact (k - 1)) := Lib.hid (fun k hk => by obtain ⟨m, rfl⟩ : ∃ m, k = m + 1 := ⟨k - 1, by omega⟩; rfl)
  have HST := Lib.hid (RowSt.start n)
  have hrs : (roundsS n).size = n := rounds_size n (by omega)
  have h1 : inB (n : Int) 3 8 = true := by rw [inB, decide_eq_true_iff]; omega
  have h2 : inB (k : Int) 0 ((fact n : Int) - 1) = true := by rw [inB, decide_eq_true_iff]; omega
  go_in
  go_wp2_with (first | (go_at_call 39; refine (spec_l1In _ _ _ _).mono ?_; (first | rw [h1] | rw [h2]); rintro e w' ⟨rfl, rfl⟩) | (go_at_call 101; refine (spec_l1Fact h8).mono ?_; rintro e w' ⟨rfl, rfl⟩) | (go_at_call 86; refine (spec_l1Rounds h8).mono ?_; rintro e w' ⟨rfl, rfl⟩))
  go_loopw [1, 6, 7] (fun kk r o wr => ∃ (K : Nat) (rest out : ByteArray), kk = .int .i64 K ∧ r = .string rest ∧ o = .string out ∧ rest.size ≤ n ∧ K < fact rest.size ∧ Hid (RowSt n out rest) ∧ Below w.heap.size w wr) (fun _ r _ _ => txLen r)
  case atStart => exact ⟨k, roundsS n, ⟨#[]⟩, rfl, rfl, rfl, by omega, by rw [hrs]; exact hk, HST, Below.refl _ _⟩
  case round =>
    obtain ⟨K, rest, out, rfl, rfl, rfl, hrn, hK, HS, hb⟩ := hrel
    rename World => wr
    have hsz := HS.out.sizes h8
    by_cases h0 : 0 < rest.size
    · have hI : (0 : Int) < (rest.size : Int) := by omega
      have hm1 : (rest.size : Int) - 1 = ((rest.size - 1 : Nat) : Int) := by omega
      obtain ⟨F, hF⟩ : ∃ F, F = fact (rest.size - 1) := ⟨_, rfl⟩
      have hFp : 0 < F := by rw [hF]; exact HP.out _
      have hFl : F ≤ 40320 := by rw [hF]; exact HF.out _ (by omega)
      have hKF : K < rest.size * F := by rw [hF, ← HM.out _ h0]; exact hK
      have hK4 : K ≤ 40320 := by have := HF.out rest.size (by omega); omega
      have hi : K / F < rest.size := div_lt_of hKF hFp
      have hmod : K % F < F := Nat.mod_lt _ hFp
      obtain ⟨q, hq⟩ : ∃ q, q = K / F := ⟨_, rfl⟩
      obtain ⟨m, hm⟩ : ∃ m, m = K % F := ⟨_, rfl⟩
      have hqK : q ≤ K := by rw [hq]; exact Nat.div_le_self K F
      have e1 : IntKind.i64.wrap ((K : Int) / (F : Int)) = (q : Int) := by
        rw [show (K : Int) / (F : Int) = (q : Int) by rw [hq]; simp]; exact wrap_id (by omega)
      have e2 : (K : Int) % (F : Int) = (m : Int) := by rw [hm]; simp
      rw [← hq] at hi
      rw [← hm] at hmod
      have HST2 := Lib.hid (HS.out.step hi)
      have hFn : ¬ (F : Int) = 0 := by omega
      have hs2 := HST2.out.sizes h8
      have hs3 : (out ++ rest.extract q (q + 1)).size = out.size + 1 := by rw [ByteArray.size_append, ByteArray.size_extract]; omega
      have hfq : fact (rest.extract 0 q ++ rest.extract (q + 1) rest.size).size = F := by rw [hF]; congr 1; omega
      have HF2 := Lib.hid hF
      have HS2 := Lib.hid hfq
      clear hq hm hfq hF
      clear hKF hK
      go_wp2_with (go_at_call 101; refine (spec_l1Fact (n := rest.size - 1) (by omega)).mono ?_; rw [← HF2.out]; rintro e w' ⟨rfl, rfl⟩)
      have w1 : IntKind.i64.wrap ((q : Int) + 1) = (q : Int) + 1 := wrap_id (by omega)
      have w2 : (q : Int) + 1 ≤ (rest.size : Int) := by omega
      have w3 : (q : Int) ≤ (rest.size : Int) := by omega
      go_quiet (fail)
      go_wp2
      go_roundw
      case rel => exact ⟨m, rest.extract 0 q ++ rest.extract (q + 1) rest.size, out ++ rest.extract q (q + 1), by go_num, rfl, rfl, by omega, by rw [HS2.out]; exact hmod, HST2, below_drewN hb _⟩
      case measure => simp [txLen]; omega
    · go_wp2
      go_ret2
      obtain ⟨h5, h6⟩ := HS.out.done h3 h8 (by omega)
      exact ⟨out, rfl, ⟨h5, h6⟩, hb⟩
end Go.Proofs.YthffeljicohpdaaGreatDoor
/- The walks through the generator of spoilt texts. -/
namespace Go.Proofs.YthffeljicohpdaaGreatDoor
set_option linter.unusedVariables false
set_option linter.unusedSimpArgs false
open Go.ChangeShapes Go.WideShapes Go.ChangeAt Go.RowKit Go.Deep
set_option maxHeartbeats 1000000 in
set_option maxRecDepth 100000 in
theorem cur_spoilt {A : Option Addr} {n c a p B : Nat} {t v : ByteArray} {w0 w : World} (hS : Src w0 A n) (hb : Below w0.heap.size w0 w) (hp : w0.heap.size ≤ p) (hc : Cur w p A n c a) (ha : a ≤ 1000000) (ht : t.size ≤ B) (hB : B ≤ 40000) (hv0 : 0 < v.size) (hv : v.size ≤ 200) :
    Calls Tryz.prog 31 #[.pointer (some ⟨p, 0, none⟩), .string t, .string v] w fun e w' => ∃ s : ByteArray, e = .returned (.string s) ∧ s.size ≤ B + 2 ∧ Cur w' p A n c (a + 20) ∧ w.grownBy w' (some p) := by
  have HS := Lib.hid hS
  have G : Hid (∀ u : World, w.grownBy u (some p) → Below w0.heap.size w0 u) := Lib.hid (fun u hg => grown_below hb hp hg)
  go_in
  go_wp2_with fail
  refine (cur_pick hS hb hp hc (by omega) (by decide) (by decide)).mono ?_; rintro e w1 ⟨x, rfl, ⟨x0, x1⟩, hc1, hg1⟩
  obtain ⟨k0, rfl⟩ := Int.eq_ofNat_of_zero_le x0
  have hk0 : k0 ≤ 1 := by omega
  have hk1 : (1 : Int) + (k0 : Int) = ((k0 + 1 : Nat) : Int) := by omega
  clear hS x0 x1
  go_wp2
  go_loopw [1, 7, 8, 9, 44, 55] (fun vt vn _ _ _ _ wr => ∃ (k : Nat) (s : ByteArray), vt = .string s ∧ vn = .int .i64 k ∧ k ≤ 2 ∧ s.size + k ≤ B + 2 ∧ Cur wr p A n c (a + 1 + 5 * (2 - k)) ∧ Hid (w.grownBy wr (some p))) (fun _ vn _ _ _ _ _ => (intOf vn).toNat)
  case atStart => exact ⟨k0 + 1, t, rfl, rfl, by omega, by omega, hc1.mono (by omega), Lib.hid hg1⟩
  case round =>
    obtain ⟨k, s, rfl, rfl, hk, hs, hc, HG⟩ := hrel
    rename World => wr
    by_cases h0 : 0 < k
    · have hI : (k : Int) > 0 := by omega
      by_cases h1 : 0 < s.size
      · have hJ : (s.size : Int) > 0 := by omega
        go_wp2_with fail
        refine (cur_pickL HS.out (G.out _ HG.out) hp hc (by omega) (by omega) (by omega)).mono ?_; rintro e w2 ⟨y, rfl, ⟨y0, y1⟩, hc2, hg2⟩
        obtain ⟨i, rfl⟩ := Int.eq_ofNat_of_zero_le y0
        have hi : i < s.size := by omega
        have HG2 := Lib.hid (grownBy_trans HG.out hg2)
        clear y0 y1 hg2 HG hc
        go_wp2_with fail
        refine (cur_pick HS.out (G.out _ HG2.out) hp hc2 (by omega) (by omega) (by omega)).mono ?_; rintro e w3 ⟨z, rfl, ⟨z0, z1⟩, hc3, hg3⟩
        obtain ⟨j, rfl⟩ := Int.eq_ofNat_of_zero_le z0
        have hj : j < v.size := by omega
        have HG3 := Lib.hid (grownBy_trans HG2.out hg3)
        clear z0 z1 hg3 HG2 hc2
        have cv : ∀ x : Int, (convert 22 9 (.slice (some ⟨w3.heap.size, 0, none⟩) 1 1)).run Tryz.prog (w3.alloc (.cells #[.int .u8 x] 5)) = .ok (.string (strOfNums [x])) (w3.alloc (.cells #[.int .u8 x] 5)) := fun x =>
          run_convert_bytes_arg _ 22 5 Tryz.underlying22 Tryz.underlying5 w3.heap.size 0 1 1 [x] rfl (fun i hi => by
            obtain rfl : i = 0 := by omega
            exact (Blk.at_ w3 5 [.int .u8 x] rfl).cell 0) 9 Tryz.underlying9
        have hbA : ∀ x : Int, Below w3.heap.size w3 (w3.alloc (.cells #[.int .u8 x] 5)) := fun x => below_alloc (Below.refl _ _) _
        go_wp2_with fail
        obtain ⟨x5, hx5⟩ : ∃ x : Int, x = ((v[j].toNat : Nat) : Int) := ⟨_, rfl⟩
        rw [← hx5]
        obtain ⟨W, hW⟩ : ∃ W, W = strOfNums [x5] := ⟨_, rfl⟩
        have hW1 : W.size = 1 := by rw [hW]; rfl
        rw [← hW]
        have hb4 := hbA x5
        obtain ⟨w4, hw4⟩ : ∃ u, u = w3.alloc (.cells #[.int .u8 x5] 5) := ⟨_, rfl⟩
        rw [← hw4] at hb4 ⊢
        have hc4 := hc3.up hb4
        have HG4 := Lib.hid (grownBy_trans HG3.out (grown_any hb4 _))
        clear cv hbA hx5 hW hw4 hc3 HG3 hb4
        refine (cur_pick HS.out (G.out _ HG4.out) hp hc4 (by omega) (by decide) (by decide)).mono ?_; rintro e w5 ⟨z, rfl, ⟨z0, z1⟩, hc5, hg5⟩
        have HG5 := Lib.hid (grownBy_trans HG4.out hg5)
        clear hg5 HG4 hc4
        have hsI : ¬ 9223372036854775807 < i + 1 := by omega
        have hsI2 : ¬ 9223372036854775807 < i + 1 + (s.size - i) := by omega
        have hsI3 : ¬ 9223372036854775807 < i + 1 + (s.size - (i + 1)) := by omega
        have hsI4 : ¬ 9223372036854775807 < i + (s.size - (i + 1)) := by omega
        have hz3 : z = 0 ∨ z = 1 ∨ z = 2 := by omega
        rcases hz3 with rfl | rfl | rfl
        · have hsz : (s.extract 0 i ++ W ++ s.extract i s.size).size + (k - 1) ≤ B + 2 := by simp only [ByteArray.size_append, ByteArray.size_extract]; omega
          clear hsI hsI2 hsI3 hsI4 z0 z1
          have hq1 : ¬ 9223372036854775807 < (s.extract 0 i).size + W.size := by simp only [ByteArray.size_extract]; omega
          go_wp2
          go_quiet (fail)
          go_wp2
          go_roundw
          case rel => exact ⟨k - 1, s.extract 0 i ++ W ++ s.extract i s.size, rfl, by go_num, by omega, hsz, (hc5.up (below_drewN (Below.refl _ _) _)).mono (by omega), Lib.hid (grownBy_trans HG5.out (grown_any (below_drewN (Below.refl _ _) _) _))⟩
          case measure => simp [intOf]; omega
        · have hsz : (s.extract 0 i ++ W ++ s.extract (i + 1) s.size).size + (k - 1) ≤ B + 2 := by simp only [ByteArray.size_append, ByteArray.size_extract]; omega
          clear hsI hsI2 hsI3 hsI4 z0 z1
          have hq1 : ¬ 9223372036854775807 < (s.extract 0 i).size + W.size := by simp only [ByteArray.size_extract]; omega
          go_wp2
          go_quiet (fail)
          go_wp2
          go_roundw
          case rel => exact ⟨k - 1, s.extract 0 i ++ W ++ s.extract (i + 1) s.size, rfl, by go_num, by omega, hsz, (hc5.up (below_drewN (Below.refl _ _) _)).mono (by omega), Lib.hid (grownBy_trans HG5.out (grown_any (below_drewN (Below.refl _ _) _) _))⟩
          case measure => simp [intOf]; omega
        · have hsz : (s.extract 0 i ++ s.extract (i + 1) s.size).size + (k - 1) ≤ B + 2 := by simp only [ByteArray.size_append, ByteArray.size_extract]; omega
          clear hsI hsI2 hsI3 hsI4 z0 z1
          have hq1 : ¬ 9223372036854775807 < (s.extract 0 i).size + W.size := by simp only [ByteArray.size_extract]; omega
          go_wp2
          go_quiet (fail)
          go_wp2
          go_roundw
          case rel => exact ⟨k - 1, s.extract 0 i ++ s.extract (i + 1) s.size, rfl, by go_num, by omega, hsz, (hc5.up (below_drewN (Below.refl _ _) _)).mono (by omega), Lib.hid (grownBy_trans HG5.out (grown_any (below_drewN (Below.refl _ _) _) _))⟩
          case measure => simp [intOf]; omega
      · have hJ : ¬ (s.size : Int) > 0 := by omega
        go_wp2
        go_ret
        exact ⟨s, rfl, by omega, hc.mono (by omega), HG.out⟩
    · have hI : ¬ (k : Int) > 0 := by omega
      go_wp2
      go_ret
      exact ⟨s, rfl, by omega, hc.mono (by omega), HG.out⟩
end Go.Proofs.YthffeljicohpdaaGreatDoor
/- Signs: a change turns the sign of a row as often as it swaps; the sign of a product. -/
namespace Go.Proofs.YthffeljicohpdaaGreatDoor
set_option linter.unusedVariables false
set_option linter.unusedSimpArgs false
open Go.ChangeShapes Go.WideShapes Go.ChangeAt Go.RowKit Go.Deep
def invs : List Int → Nat
  | [] => 0
  | x :: r => cnt x r + invs r
def gt (y : Int) (l : List Int) : Nat := l.countP fun z => decide (y < z)
theorem gt_cons (y z : Int) (l : List Int) : gt y (z :: l) = gt y l + (if y < z then 1 else 0) := by
  rw [gt, List.countP_cons, gt]
  by_cases h : y < z <;> simp [h]
theorem cnt_snoc (x y : Int) (l : List Int) : cnt x (l ++ [y]) = cnt x l + (if y < x then 1 else 0) := by
  rw [cnt, List.countP_append, cnt]
  by_cases h : y < x <;> simp [h]
theorem invs_snoc (y : Int) : ∀ l : List Int, invs (l ++ [y]) = invs l + gt y l
  | [] => by simp [invs, gt, cnt]
  | x :: r => by
    rw [List.cons_append, invs, invs_snoc y r, cnt_snoc, invs, gt_cons]
    omega
theorem drop_someZ {α : Type} {l : List α} {k : Nat} {x : α} (h : l[k]? = some x) : l.drop k = x :: l.drop (k + 1) := by
  rw [List.drop_eq_getElem_cons (List.getElem?_eq_some_iff.1 h).1, (List.getElem?_eq_some_iff.1 h).2]
def evB (n : Nat) : Bool := decide (n % 2 = 0)
theorem evB_succ (n : Nat) : evB (n + 1) = !evB n := by
  simp only [evB]
  by_cases h : n % 2 = 0
  · rw [decide_eq_true h, decide_eq_false (by omega)]; rfl
  · rw [decide_eq_false h, decide_eq_true (by omega)]; rfl
theorem tg_gt (s : ByteArray) (i : Nat) (c : Nat) : ∀ k, k ≤ s.size → tg s i k (evB c) = evB (c + gt (PlainAid.bt s i) ((nums s).take k))
  | 0, _ => by simp [tg, gt]
  | k + 1, h => by
    have ih := tg_gt s i c k (by omega)
    have e : (nums s).take (k + 1) = (nums s).take k ++ [PlainAid.bt s k] := take_succ_some (nums_at (by omega))
    have e2 : gt (PlainAid.bt s i) ((nums s).take k ++ [PlainAid.bt s k]) = gt (PlainAid.bt s i) ((nums s).take k) + (if PlainAid.bt s i < PlainAid.bt s k then 1 else 0) := by
      rw [gt, List.countP_append, gt]
      by_cases h : PlainAid.bt s i < PlainAid.bt s k <;> simp [h]
    rw [e, e2]
    by_cases hlt : PlainAid.bt s i < PlainAid.bt s k
    · rw [tg_yes hlt, ih, if_pos hlt, ← Nat.add_assoc, evB_succ]
    · rw [tg_no hlt, ih, if_neg hlt, Nat.add_zero]
theorem evo_invs (s : ByteArray) : ∀ k, k ≤ s.size → evo s k = evB (invs ((nums s).take k))
  | 0, _ => by simp [evo, invs, evB]
  | k + 1, h => by
    have e : (nums s).take (k + 1) = (nums s).take k ++ [PlainAid.bt s k] := take_succ_some (nums_at (by omega))
    rw [evo, evo_invs s k (by omega), tg_gt s k _ k (by omega), e, invs_snoc]
theorem even_invs (s : ByteArray) : evenRow s = evB (invs (nums s)) := by
  rw [evenRow, evo_invs s _ (Nat.le_refl _), List.take_of_length_le (by rw [nums_len]; exact Nat.le_refl _)]
theorem cnt_swap (z x y : Int) (q : List Int) : cnt z (x :: y :: q) = cnt z (y :: x :: q) := by
  rw [cnt_cons, cnt_cons, cnt_cons, cnt_cons]; omega
theorem invs_swap {x y : Int} (h : x ≠ y) (q : List Int) : ∀ p : List Int, evB (invs (p ++ x :: y :: q)) = !evB (invs (p ++ y :: x :: q))
  | [] => by
    simp only [List.nil_append, invs, cnt_cons]
    rcases Int.lt_or_lt_of_ne h with h1 | h1
    · rw [if_neg (by omega), if_pos h1]
      rw [show cnt x q + 0 + (cnt y q + invs q) = cnt x q + cnt y q + invs q by omega, show cnt y q + 1 + (cnt x q + invs q) = (cnt x q + cnt y q + invs q) + 1 by omega, evB_succ, Bool.not_not]
    · rw [if_pos h1, if_neg (by omega)]
      rw [show cnt x q + 1 + (cnt y q + invs q) = (cnt x q + cnt y q + invs q) + 1 by omega, show cnt y q + 0 + (cnt x q + invs q) = cnt x q + cnt y q + invs q by omega, evB_succ]
  | z :: p => by
    have ih := invs_swap h q p
    have hc : cnt z (p ++ x :: y :: q) = cnt z (p ++ y :: x :: q) := by
      rw [cnt, cnt, List.countP_append, List.countP_append]
      congr 1
      exact cnt_swap z x y q
    have key : ∀ a b c : Nat, evB a = !evB b → evB (c + a) = !evB (c + b) := fun a b c e => by
      induction c with
      | zero => simpa using e
      | succ c ih => rw [Nat.add_right_comm, Nat.add_right_comm c 1 b, evB_succ, evB_succ, ih]
    rw [List.cons_append, List.cons_append, invs, invs, hc]
    exact key _ _ _ ih
theorem invs_set {l : List Int} {p : Nat} {x y : Int} (hx : l[p]? = some x) (hy : l[p + 1]? = some y) (h : x ≠ y) : evB (invs ((l.set p y).set (p + 1) x)) = !evB (invs l) := by
  have hp := (List.getElem?_eq_some_iff.1 hy).1
  have e1 : l = l.take p ++ x :: y :: l.drop (p + 2) := by
    conv => lhs; rw [← List.take_append_drop p l]
    congr 1
    rw [drop_someZ hx, drop_someZ hy]
  have e2 : (l.set p y).set (p + 1) x = l.take p ++ y :: x :: l.drop (p + 2) := by
    have ht : (l.take p).length = p := by rw [List.length_take]; omega
    conv => lhs; rw [e1]
    rw [List.set_append_right _ _ (by omega), ht, Nat.sub_self, List.set_cons_zero, List.set_append_right _ _ (by omega), ht, Nat.add_sub_cancel_left, List.set_cons_succ, List.set_cons_zero]
  rw [e2, invs_swap (fun e => h e.symm)]
  conv => rhs; rw [e1]
/-- How often the first k swaps turn. -/
theorem rowV_take {n : Nat} {sw : List Int} (hin : ∀ x ∈ sw, ((1 : Nat) : Int) ≤ x ∧ x < n) (hfar : sw.Pairwise fun x y => x + 2 ≤ y) {a : ByteArray} (ha : isRowL (nums a)) (hn : a.size = n) :
    ∀ k, k ≤ sw.length → evB (invs ((rowV n (sw.take k)).map fun z => PlainAid.bt a (z - 49).toNat)) = (evB (invs (nums a)) == evB k)
  | 0, _ => by
    have e : ((rowV n []).map fun z => PlainAid.bt a (z - 49).toNat) = nums a := by
      apply List.ext_getElem (by rw [List.length_map, rowV_len, nums_len, hn])
      intro i h1 h2
      simp only [rowV, List.getElem_map, List.getElem_range, nums]
      congr 1
      simp [cval]
      omega
    rw [List.take_zero, e]
    rcases evB (invs (nums a)) <;> rfl
  | k + 1, h => by
    have ih := rowV_take hin hfar ha hn k (by omega)
    have hy : sw[k]? = some sw[k] := List.getElem?_eq_getElem (by omega)
    have hyin := hin _ (List.mem_of_getElem? hy)
    obtain ⟨q, hq⟩ : ∃ q : Nat, sw[k] = (q : Int) + 1 := ⟨(sw[k] - 1).toNat, by omega⟩
    have hqn : q + 1 < n := by omega
    have hfr : ∀ x ∈ sw.take k, x + 2 ≤ ((q + 1 : Nat) : Int) := fun x hx => by have := take_far hfar hy x hx; omega
    have hpl := rowV_plain hqn hfr
    have ht : sw.take (k + 1) = sw.take k ++ [((q + 1 : Nat) : Int)] := by rw [take_succ_some hy, hq]; rfl
    rw [ht, rowV_step (p := q + 1) (by omega) hqn hfr, Nat.add_sub_cancel, List.map_set, List.map_set]
    have b1 : PlainAid.bt a ((49 + ((q + 1 : Nat) : Int)) - 49).toNat = PlainAid.bt a (q + 1) := by congr 1; omega
    have b2 : PlainAid.bt a ((48 + ((q + 1 : Nat) : Int)) - 49).toNat = PlainAid.bt a q := by congr 1; omega
    have b3 : PlainAid.bt a ((49 + (q : Int)) - 49).toNat = PlainAid.bt a q := by congr 1; omega
    have b4 : PlainAid.bt a ((49 + ((q : Int) + 1)) - 49).toNat = PlainAid.bt a (q + 1) := by congr 1; omega
    rw [b1, b2]
    have m1 : ((rowV n (sw.take k)).map fun z => PlainAid.bt a (z - 49).toNat)[q]? = some (PlainAid.bt a q) := by
      rw [List.getElem?_map, hpl.1]
      show some (PlainAid.bt a ((49 + (q : Int)) - 49).toNat) = _
      rw [b3]
    have m2 : ((rowV n (sw.take k)).map fun z => PlainAid.bt a (z - 49).toNat)[q + 1]? = some (PlainAid.bt a (q + 1)) := by
      rw [List.getElem?_map, hpl.2]
      show some (PlainAid.bt a ((49 + ((q : Int) + 1)) - 49).toNat) = _
      rw [b4]
    have hne : PlainAid.bt a q ≠ PlainAid.bt a (q + 1) := by
      have hp := ha.1
      rw [List.nodup_iff_pairwise_ne, List.pairwise_iff_getElem] at hp
      have := hp q (q + 1) (by rw [nums_len]; omega) (by rw [nums_len]; omega) (by omega)
      have h1 := nums_at (s := a) (k := q) (by omega); have h2 := nums_at (s := a) (k := q + 1) (by omega)
      rw [List.getElem?_eq_getElem (by rw [nums_len]; omega)] at h1 h2
      injection h1 with h1; injection h2 with h2
      rw [← h1, ← h2]; exact this
    rw [invs_set m1 m2 hne, ih, evB_succ]
    rcases evB (invs (nums a)) <;> rcases evB k <;> rfl
theorem sign_apply {a : ByteArray} (h : goodRow a = true) (c : ByteArray) : evenRow (applyR a c) = (evenRow a == evenSwaps a.size c) := by
  have hn := goodRow_n h
  have hr := goodRow_list h
  have h2 := rowL_times hr (by rw [chRow, nums_strOf (rowL_bytes (rowL_ch a.size c) (by rw [rowV_len]; omega))]; exact rowL_ch a.size c) (chRow_size a.size c).symm
  have e1 : nums (applyR a c) = (rowV a.size (swaps a.size c)).map fun z => PlainAid.bt a (z - 49).toNat := by
    rw [applyR, timesS, nums_strOf (rowL_bytes h2 (by rw [timesL_len, chRow_size]; omega)), timesL, chRow, nums_strOf (rowL_bytes (rowL_ch a.size c) (by rw [rowV_len]; omega))]
  have e2 := rowV_take (sws_in (stays c) a.size 1) (sws_far (stays c) a.size 1) hr rfl (swaps a.size c).length (Nat.le_refl _)
  rw [show sws (stays c) a.size 1 = swaps a.size c from rfl, List.take_of_length_le (Nat.le_refl _)] at e2
  rw [even_invs, e1, e2, even_invs]
  rfl
/-! products -/
theorem nums_times {a b : ByteArray} (h : goodRow a = true) (g : goodRow b = true) (e : a.size = b.size) : nums (timesS a b) = timesL a b := by
  have hn := goodRow_n h
  rw [timesS, nums_strOf (rowL_bytes (rowL_times (goodRow_list h) (goodRow_list g) e) (by rw [timesL_len]; omega))]
theorem times_assoc {a b c : ByteArray} (ha : goodRow a = true) (hb : goodRow b = true) (hc : goodRow c = true) (e1 : a.size = b.size) (e2 : b.size = c.size) : timesS a (timesS b c) = timesS (timesS a b) c := by
  suffices h : timesL a (timesS b c) = timesL (timesS a b) c by
    show strOfNums (timesL a (timesS b c)) = strOfNums (timesL (timesS a b) c)
    rw [h]
  show (nums (timesS b c)).map _ = (nums c).map _
  rw [nums_times hb hc e2, timesL, List.map_map]
  apply List.map_congr_left
  intro z hz
  have hz2 := (goodRow_list hc).2 z hz
  rw [nums_len] at hz2
  have hk : (z - 49).toNat < b.size := by omega
  have h1 := timesL_at (a := a) hk
  rw [← nums_times ha hb e1, nums_at (by rw [timesS, strOfNums_size, timesL_len]; exact hk)] at h1
  injection h1 with h1
  rw [h1]; rfl
theorem times_rounds {a : ByteArray} (h : goodRow a = true) : timesS a (roundsS a.size) = a := by
  have hn := goodRow_n h
  apply nums_inj
  rw [nums_times h (good_rounds _ (by omega) (by omega)) (rounds_size _ (by omega)).symm, timesL, rowV_nil _ (by omega)]
  apply List.ext_getElem (by rw [List.length_map, rowV_len, nums_len])
  intro i h1 h2
  simp only [rowV, List.getElem_map, List.getElem_range, nums]
  congr 1
  simp [cval]
  omega
theorem times_apply {a b : ByteArray} (ha : goodRow a = true) (hb : goodRow b = true) (e : a.size = b.size) (c : ByteArray) : timesS a (applyR b c) = applyR (timesS a b) c := by
  have hs : (timesS a b).size = b.size := by rw [timesS, strOfNums_size, timesL_len]
  rw [applyR, applyR, hs, times_assoc ha hb (good_ch (goodRow_n hb) c) e (chRow_size _ _).symm]
theorem sign_times_rAt {a : ByteArray} (ha : goodRow a = true) (l : List ByteArray) : ∀ k, evenRow (timesS a (rAt (roundsS a.size) l k)) = (evenRow a == evenRow (rAt (roundsS a.size) l k))
  | 0 => by
    rw [rAt, times_rounds ha]
    have : ∀ n, n < 9 → evenRow (roundsS n) = true := of_decide_eq_true (by kernel_rfl)
    rw [this _ (by have := goodRow_n ha; omega)]
    rcases evenRow a <;> rfl
  | k + 1 => by
    have hn := goodRow_n ha
    have hg := good_rAt (good_rounds a.size (by omega) (by omega)) l k
    have hs : (rAt (roundsS a.size) l k).size = a.size := by rw [rAt_size, rounds_size _ (by omega)]
    have ht : (timesS a (rAt (roundsS a.size) l k)).size = a.size := by rw [timesS, strOfNums_size, timesL_len, hs]
    rw [rAt, times_apply ha hg hs.symm, sign_apply (good_times ha hg hs.symm), sign_apply hg, sign_times_rAt ha l k, ht, hs]
    rcases evenRow a <;> rcases evenRow (rAt (roundsS a.size) l k) <;> rcases evenSwaps a.size _ <;> rfl
theorem sign_times_head {a : ByteArray} (ha : goodRow a = true) {l : List ByteArray} (x : ByteArray) (h : 0 < l.length) : evenRow (timesS a (headX a.size l x)) = (evenRow a == evenRow (headX a.size l x)) := by
  have := sign_times_rAt ha (l.set (l.length - 1) x) l.length
  rwa [headX_set h] at this
end Go.Proofs.YthffeljicohpdaaGreatDoor
/- Chapter 17 as plain functions: the inverse of a row, the powers of a row, Q-sets. -/
namespace Go.Proofs.YthffeljicohpdaaGreatDoor
set_option linter.unusedVariables false
set_option linter.unusedSimpArgs false
open Go.ChangeShapes Go.WideShapes Go.ChangeAt Go.RowKit Go.Deep
theorem nodup_of {α : Type} {l : List α} (h : ∀ i j, i < j → j < l.length → l[i]? ≠ l[j]?) : l.Nodup :=
  List.pairwise_iff_getElem.2 fun i j hi hj hij e => h i j hij hj (by rw [List.getElem?_eq_getElem hi, List.getElem?_eq_getElem hj, e])
/-- m is the inverse of a, written in bytes. -/
def TurnOf (a : ByteArray) (m : List Int) : Prop := m.length = a.size ∧ ∀ i, i < a.size → m[(PlainAid.bt a i - 49).toNat]? = some (49 + (i : Int))
theorem row_at {a : ByteArray} (h : goodRow a = true) {i : Nat} (hi : i < a.size) : 49 ≤ PlainAid.bt a i ∧ PlainAid.bt a i ≤ 48 + (a.size : Int) := by
  have := (goodRow_list h).2 _ (List.mem_of_getElem? (nums_at hi))
  rwa [nums_len] at this
theorem row_inj {a : ByteArray} (h : goodRow a = true) {i j : Nat} (hi : i < a.size) (hj : j < a.size) (e : PlainAid.bt a i = PlainAid.bt a j) : i = j := by
  have hn := (goodRow_list h).1
  have h1 := nums_at hi
  have h2 := nums_at hj
  rw [e] at h1
  exact (List.getElem?_inj (by rw [nums_len]; exact hi) hn).1 (h1.trans h2.symm)
theorem row_hit {a : ByteArray} (h : goodRow a = true) {j : Nat} (hj : j < a.size) : ∃ i, i < a.size ∧ PlainAid.bt a i = 49 + (j : Int) := by
  have hm : (49 + (j : Int)) ∈ nums a := (isRowL_mem (goodRow_list h)).2 (by rw [nums_len]; omega)
  obtain ⟨i, hi⟩ := List.getElem?_of_mem hm
  have hl := (List.getElem?_eq_some_iff.1 hi).1
  rw [nums_len] at hl
  rw [nums_at hl] at hi
  injection hi with hi
  exact ⟨i, hl, hi⟩
theorem TurnOf.uniq {a : ByteArray} {m l : List Int} (h : goodRow a = true) (hm : TurnOf a m) (hl : TurnOf a l) : m = l := by
  refine eq_of_upto (k := a.size) (fun j hj => ?_) hm.1 hl.1
  obtain ⟨i, hi, e⟩ := row_hit h hj
  have h1 := hm.2 i hi
  have h2 := hl.2 i hi
  rw [e, show ((49 : Int) + (j : Int) - 49).toNat = j by omega] at h1 h2
  rw [h1, h2]
/-- The inverse of a row. -/
noncomputable def turnS (a : ByteArray) : ByteArray := by
  classical exact if h : ∃ m, TurnOf a m then strOfNums h.choose else ByteArray.empty
theorem turn_eq {a : ByteArray} {m : List Int} (h : goodRow a = true) (hm : TurnOf a m) : turnS a = strOfNums m := by
  have he : ∃ m, TurnOf a m := ⟨m, hm⟩
  rw [turnS, dif_pos he, TurnOf.uniq h he.choose_spec hm]
theorem turn_row {a : ByteArray} {m : List Int} (h : goodRow a = true) (hm : TurnOf a m) : RowN a.size (turnS a) := by
  have hn := goodRow_n h
  have hv : ∀ j, j < a.size → ∃ i, i < a.size ∧ PlainAid.bt a i = 49 + (j : Int) ∧ m[j]? = some (49 + (i : Int)) := fun j hj => by
    obtain ⟨i, hi, e⟩ := row_hit h hj
    have h1 := hm.2 i hi
    rw [e, show ((49 : Int) + (j : Int) - 49).toNat = j by omega] at h1
    exact ⟨i, hi, e, h1⟩
  have hr : isRowL m := by
    constructor
    · refine nodup_of ?_
      intro i j hij hj hc
      rw [hm.1] at hj
      obtain ⟨p, _, ep, e1⟩ := hv i (by omega)
      obtain ⟨q, _, eq, e2⟩ := hv j hj
      rw [e1, e2] at hc
      injection hc with hc
      have : p = q := by omega
      subst this
      omega
    · intro z hz
      obtain ⟨j, hj⟩ := List.getElem?_of_mem hz
      have hl := (List.getElem?_eq_some_iff.1 hj).1
      rw [hm.1] at hl
      obtain ⟨p, hp, _, e1⟩ := hv j hl
      rw [e1] at hj
      injection hj with hj
      rw [hm.1]; omega
  have hb := rowL_bytes hr (by rw [hm.1]; omega)
  have hs : (strOfNums m).size = a.size := by rw [strOfNums_size, hm.1]
  rw [turn_eq h hm]
  exact ⟨goodRow_of (by rw [hs]; omega) (by rw [nums_strOf hb]; exact hr), hs⟩
/-! products -/
theorem times_at {a b : ByteArray} {n k : Nat} (ha : RowN n a) (hb : RowN n b) (hk : k < n) : PlainAid.bt (timesS a b) k = PlainAid.bt a (PlainAid.bt b k - 49).toNat := by
  have h1 := timesL_at (a := a) (b := b) (k := k) (by rw [hb.2]; exact hk)
  rw [← nums_times ha.1 hb.1 (by rw [ha.2, hb.2]), nums_at (by rw [(ha.times hb).2]; exact hk)] at h1
  injection h1
theorem row_ext {a b : ByteArray} (e : a.size = b.size) (h : ∀ k, k < a.size → PlainAid.bt a k = PlainAid.bt b k) : a = b := by
  refine nums_inj (eq_of_upto (k := a.size) (fun j hj => ?_) (nums_len a) (by rw [nums_len, e]))
  rw [nums_at hj, nums_at (by rw [← e]; exact hj), h j hj]
theorem times_cancel {x y q : ByteArray} {n : Nat} (hx : RowN n x) (hy : RowN n y) (hq : RowN n q) (e : timesS x q = timesS y q) : x = y := by
  refine row_ext (by rw [hx.2, hy.2]) fun k hk => ?_
  rw [hx.2, ← hq.2] at hk
  obtain ⟨i, hi, e1⟩ := row_hit hq.1 hk
  rw [hq.2] at hi
  have h1 := times_at hx hq hi
  have h2 := times_at hy hq hi
  rw [e1, show ((49 : Int) + (k : Int) - 49).toNat = k by omega] at h1 h2
  rw [← h1, ← h2, e]
theorem rounds_bt {n k : Nat} (h8 : n < 9) (hk : k < n) : PlainAid.bt (roundsS n) k = 49 + (k : Int) := by
  have h1 := nums_at (s := roundsS n) (k := k) (by rw [rounds_size _ h8]; exact hk)
  rw [rowV_nil _ h8] at h1
  have h2 : (rowV n [])[k]? = some (49 + (k : Int)) := by
    rw [rowV, List.getElem?_map, List.getElem?_range hk]
    simp [cval]
    try omega
  rw [h2] at h1
  injection h1 with h1
  exact h1.symm
theorem rounds_times {q : ByteArray} {n : Nat} (hq : RowN n q) : timesS (roundsS n) q = q := by
  have hs := hq.st
  have hr := rowN_rounds hs.1 hs.2
  refine row_ext (by rw [(hr.times hq).2, hq.2]) fun k hk => ?_
  rw [(hr.times hq).2] at hk
  have h1 := row_at hq.1 (i := k) (by rw [hq.2]; exact hk)
  rw [hq.2] at h1
  rw [times_at hr hq hk, rounds_bt (by omega) (by omega)]
  omega
/-- The powers of a row. -/
def pwS (n : Nat) (q : ByteArray) : Nat → ByteArray
  | 0 => roundsS n
  | k + 1 => timesS (pwS n q k) q
theorem pw_row {n : Nat} {q : ByteArray} (hq : RowN n q) : ∀ k, RowN n (pwS n q k)
  | 0 => rowN_rounds hq.st.1 hq.st.2
  | k + 1 => (pw_row hq k).times hq
theorem pw_one {n : Nat} {q : ByteArray} (hq : RowN n q) : pwS n q 1 = q := rounds_times hq
theorem pw_eq {n : Nat} {q : ByteArray} (hq : RowN n q) : ∀ i d, pwS n q i = pwS n q (i + d) → pwS n q d = roundsS n
  | 0, d, h => by rw [Nat.zero_add] at h; exact h.symm
  | i + 1, d, h => by
    rw [Nat.add_right_comm] at h
    exact pw_eq hq i d (times_cancel (pw_row hq i) (pw_row hq (i + d)) hq h)
def pwL (n : Nat) (q : ByteArray) (m : Nat) : List ByteArray := (List.range m).map (pwS n q)
theorem pwL_len (n : Nat) (q : ByteArray) (m : Nat) : (pwL n q m).length = m := by simp [pwL]
theorem pwL_succ (n : Nat) (q : ByteArray) (m : Nat) : pwL n q (m + 1) = pwL n q m ++ [pwS n q m] := by rw [pwL, List.range_succ, List.map_append]; rfl
theorem pwL_le {n m : Nat} {q : ByteArray} (hq : RowN n q) (h : ∀ k, 1 ≤ k → k < m → pwS n q k ≠ roundsS n) : m ≤ fact n := by
  have h1 : (pwL n q m).Nodup := by
    rw [pwL]; refine nodup_of ?_
    intro i j hij hj hc
    rw [List.length_map, List.length_range] at hj
    rw [List.getElem?_map, List.getElem?_map, List.getElem?_range (by omega), List.getElem?_range hj] at hc
    injection hc with hc
    refine h (j - i) (by omega) (by omega) (pw_eq hq i (j - i) ?_)
    rw [hc, show i + (j - i) = j by omega]
  have h2 := rows_le h1 (n := n) (fun s hs => by
    rw [pwL, List.mem_map] at hs
    obtain ⟨k, _, rfl⟩ := hs
    exact pw_row hq k)
  rwa [pwL_len] at h2
/-- A row of rows that has with each of its rows the next one by q. -/
def closedB (q : ByteArray) (B : List ByteArray) : Bool := B.all fun h => inL B (timesS h q)
theorem closed_pw {n : Nat} {q : ByteArray} {B : List ByteArray} (hq : RowN n q) (hB : ∀ h ∈ B, RowN n h) (hc : closedB q B = true) {h : ByteArray} (hh : h ∈ B) : ∀ k, timesS h (pwS n q k) ∈ B
  | 0 => by
    have h1 := times_rounds (hB h hh).1
    rw [(hB h hh).2] at h1
    rw [pwS, h1]; exact hh
  | k + 1 => by
    have ih := closed_pw hq hB hc hh k
    have hp := pw_row hq k
    rw [pwS, times_assoc (hB h hh).1 hp.1 hq.1 (by rw [(hB h hh).2, hp.2]) (by rw [hp.2, hq.2])]
    exact inL_iff.1 (List.all_eq_true.1 hc _ ih)
theorem closed_of {n m : Nat} {q : ByteArray} {B : List ByteArray} (hq : RowN n q) (hB : ∀ h ∈ B, RowN n h) (hm : 1 ≤ m) (hr : pwS n q m = roundsS n) (h : ∀ x ∈ B, ∀ k, k < m → timesS x (pwS n q k) ∈ B) : closedB q B = true := by
  rw [closedB, List.all_eq_true]
  intro x hx
  rw [inL_iff]
  by_cases h1 : 1 < m
  · have := h x hx 1 h1
    rwa [pw_one hq] at this
  · obtain rfl : m = 1 := by omega
    have h2 := times_rounds (hB x hx).1
    rw [(hB x hx).2] at h2
    rw [← pw_one hq, hr, h2]; exact hx
/-- Whether some are rising rows of a group. -/
def rowsInB (G B : List ByteArray) : Bool := B.all (inL G) && incB B
theorem inc_srt {B : List ByteArray} (h : incB B = true) : Srt B := by
  have h1 : ∀ i, i + 1 < B.length → ∀ x y, B[i]? = some x → B[i + 1]? = some y → less x y = true := fun i hi x y hx hy => by
    have := List.all_eq_true.1 h (i + 1) (List.mem_range.2 hi)
    simpa [okInc, List.getD, hx, hy] using this
  have h2 : ∀ (d i : Nat) (x y : ByteArray), B[i]? = some x → B[i + d + 1]? = some y → less x y = true := by
    intro d
    induction d with
    | zero => intro i x y hx hy; exact h1 i (List.getElem?_eq_some_iff.1 hy).1 x y hx hy
    | succ d ih =>
      intro i x y hx hy
      have hl := (List.getElem?_eq_some_iff.1 hy).1
      obtain ⟨z, hz⟩ : ∃ z, B[i + d + 1]? = some z := ⟨_, List.getElem?_eq_getElem (by omega)⟩
      exact less_trans (ih i x z hx hz) (h1 (i + d + 1) (by omega) z y hz hy)
  rw [Srt, List.pairwise_iff_getElem]
  intro i j hi hj hij
  have := h2 (j - i - 1) i _ _ (List.getElem?_eq_getElem hi) (by rw [show i + (j - i - 1) + 1 = j by omega]; exact List.getElem?_eq_getElem hj)
  rw [leS]
  rcases hc : less B[j] B[i] with _ | _
  · rfl
  · have := less_trans this hc
    rw [less_irr] at this; cases this
end Go.Proofs.YthffeljicohpdaaGreatDoor
/- Plain laws of the search for an extent, and of the count of all. -/
namespace Go.Proofs.YthffeljicohpdaaGreatDoor
set_option linter.unusedVariables false
set_option linter.unusedSimpArgs false
open Go.ChangeShapes Go.WideShapes Go.ChangeAt Go.RowKit Go.Deep
/-- How a search ends: with a way, or with no step left; or it goes on with so many steps. -/
abbrev Fate := Option (List ByteArray) ⊕ Nat
def srchL (rec : ByteArray → List ByteArray → List ByteArray → Nat → Fate) (n : Nat) (full : Bool) (r : ByteArray) (V P : List ByteArray) : List ByteArray → Nat → Fate
  | [], left => .inr left
  | _ :: _, 0 => .inl none
  | c :: cs, left + 1 =>
    if full = true ∧ decide (applyR r c = roundsS n) = true then .inl (some (P ++ [c]))
    else if full = true ∨ inL V (applyR r c) = true then srchL rec n full r V P cs left
    else match rec (applyR r c) (V ++ [applyR r c]) (P ++ [c]) left with
      | .inr left' => srchL rec n full r V P cs left'
      | .inl o => .inl o
def srch (n : Nat) (W : List ByteArray) : Nat → ByteArray → List ByteArray → List ByteArray → Nat → Fate
  | 0, r, V, P, left => srchL (fun _ _ _ l => .inr l) n true r V P W left
  | d + 1, r, V, P, left => srchL (srch n W d) n false r V P W left
section
variable {rec : ByteArray → List ByteArray → List ByteArray → Nat → Fate} {n : Nat} {full : Bool} {r c : ByteArray} {V P cs : List ByteArray} {left : Nat}
theorem srchL_over : srchL rec n full r V P (c :: cs) 0 = .inl none := by rw [srchL]
theorem srchL_hit (h : full = true) (h2 : applyR r c = roundsS n) : srchL rec n full r V P (c :: cs) (left + 1) = .inl (some (P ++ [c])) := by
  rw [srchL, if_pos ⟨h, decide_eq_true h2⟩]
theorem srchL_skip (h : ¬ (full = true ∧ applyR r c = roundsS n)) (h2 : full = true ∨ inL V (applyR r c) = true) : srchL rec n full r V P (c :: cs) (left + 1) = srchL rec n full r V P cs left := by
  rw [srchL, if_neg (fun q => h ⟨q.1, of_decide_eq_true q.2⟩), if_pos h2]
theorem srchL_in (h : full = false) (h2 : inL V (applyR r c) = false) : srchL rec n full r V P (c :: cs) (left + 1) = match rec (applyR r c) (V ++ [applyR r c]) (P ++ [c]) left with
      | .inr left' => srchL rec n full r V P cs left'
      | .inl o => .inl o := by
  rw [srchL, if_neg (fun q => by rw [h] at q; cases q.1), if_neg (fun q => by rw [h, h2] at q; rcases q with q | q <;> cases q)]
theorem srchL_in_go {l : Nat} (h : full = false) (h2 : inL V (applyR r c) = false) (h3 : rec (applyR r c) (V ++ [applyR r c]) (P ++ [c]) left = .inr l) : srchL rec n full r V P (c :: cs) (left + 1) = srchL rec n full r V P cs l := by
  rw [srchL_in h h2, h3]
theorem srchL_in_end {o : Option (List ByteArray)} (h : full = false) (h2 : inL V (applyR r c) = false) (h3 : rec (applyR r c) (V ++ [applyR r c]) (P ++ [c]) left = .inl o) : srchL rec n full r V P (c :: cs) (left + 1) = .inl o := by
  rw [srchL_in h h2, h3]
end
theorem srchL_le {rec : ByteArray → List ByteArray → List ByteArray → Nat → Fate} (hr : ∀ r V P left l, rec r V P left = .inr l → l ≤ left) (n : Nat) (full : Bool) (r : ByteArray) (V P : List ByteArray) : ∀ (cs : List ByteArray) (left l : Nat), srchL rec n full r V P cs left = .inr l → l ≤ left
  | [], left, l, h => by rw [srchL] at h; injection h with h; omega
  | c :: cs, 0, l, h => by rw [srchL] at h; cases h
  | c :: cs, left + 1, l, h => by
    rw [srchL] at h
    split at h
    · cases h
    · split at h
      · have := srchL_le hr n full r V P cs left l h; omega
      · rcases q : rec (applyR r c) (V ++ [applyR r c]) (P ++ [c]) left with o | l2
        · rw [q] at h; cases h
        · rw [q] at h
          have h1 := srchL_le hr n full r V P cs l2 l h
          have h2 := hr _ _ _ _ _ q
          omega
theorem srch_le (n : Nat) (W : List ByteArray) : ∀ (d : Nat) (r : ByteArray) (V P : List ByteArray) (left l : Nat), srch n W d r V P left = .inr l → l ≤ left
  | 0, r, V, P, left, l, h => srchL_le (fun r V P left l h => by injection h with h; omega) n true r V P W left l h
  | d + 1, r, V, P, left, l, h => srchL_le (srch_le n W d) n false r V P W left l h
/-- All ways on. -/
def cntL (rec : ByteArray → List ByteArray → Nat) (n : Nat) (full : Bool) (r : ByteArray) (V : List ByteArray) : List ByteArray → Nat
  | [] => 0
  | c :: cs =>
    if full = true then (if decide (applyR r c = roundsS n) = true then 1 else 0) + cntL rec n full r V cs
    else if inL V (applyR r c) = true then cntL rec n full r V cs
    else rec (applyR r c) (V ++ [applyR r c]) + cntL rec n full r V cs
def cntX (n : Nat) (W : List ByteArray) : Nat → ByteArray → List ByteArray → Nat
  | 0, r, V => cntL (fun _ _ => 0) n true r V W
  | d + 1, r, V => cntL (cntX n W d) n false r V W
/-- How many steps that takes. -/
def stpL (rec : ByteArray → List ByteArray → Nat) (full : Bool) (r : ByteArray) (V : List ByteArray) : List ByteArray → Nat
  | [] => 0
  | c :: cs => 1 + (if full = true ∨ inL V (applyR r c) = true then 0 else rec (applyR r c) (V ++ [applyR r c])) + stpL rec full r V cs
def stpX (W : List ByteArray) : Nat → ByteArray → List ByteArray → Nat
  | 0, r, V => stpL (fun _ _ => 0) true r V W
  | d + 1, r, V => stpL (stpX W d) false r V W
def stB (k : Nat) : Nat → Nat
  | 0 => k
  | d + 1 => k * (1 + stB k d)
theorem stpL_le {rec : ByteArray → List ByteArray → Nat} {B : Nat} (hr : ∀ r V, rec r V ≤ B) (full : Bool) (r : ByteArray) (V : List ByteArray) : ∀ cs : List ByteArray, stpL rec full r V cs ≤ cs.length * (1 + B)
  | [] => by simp [stpL]
  | c :: cs => by
    have h1 := stpL_le hr full r V cs
    rw [stpL, List.length_cons, Nat.succ_mul]
    split
    · omega
    · have := hr (applyR r c) (V ++ [applyR r c]); omega
theorem stpX_le (W : List ByteArray) : ∀ (d : Nat) (r : ByteArray) (V : List ByteArray), stpX W d r V ≤ stB W.length d
  | 0, r, V => by have := stpL_le (rec := fun _ _ => 0) (B := 0) (fun _ _ => Nat.le_refl _) true r V W; rw [stpX, stB]; omega
  | d + 1, r, V => stpL_le (stpX_le W d) false r V W
theorem stB_mono {j k : Nat} (h : j ≤ k) : ∀ d, stB j d ≤ stB k d
  | 0 => h
  | d + 1 => Nat.mul_le_mul h (by have := stB_mono h d; omega)
theorem cntL_le {rec : ByteArray → List ByteArray → Nat} {n B : Nat} (hB : 1 ≤ B) (hr : ∀ r V, rec r V ≤ B) (full : Bool) (r : ByteArray) (V : List ByteArray) : ∀ cs : List ByteArray, cntL rec n full r V cs ≤ cs.length * B
  | [] => by simp [cntL]
  | c :: cs => by
    have h1 := cntL_le hB hr (n := n) full r V cs
    rw [cntL, List.length_cons, Nat.succ_mul]
    split
    · split <;> omega
    · split
      · omega
      · have := hr (applyR r c) (V ++ [applyR r c]); omega
def ctB (k : Nat) : Nat → Nat
  | 0 => k
  | d + 1 => k * (1 + ctB k d)
theorem cntX_le (n : Nat) (W : List ByteArray) : ∀ (d : Nat) (r : ByteArray) (V : List ByteArray), cntX n W d r V ≤ stB W.length d
  | 0, r, V => by have := cntL_le (n := n) (rec := fun _ _ => 0) (B := 1) (Nat.le_refl _) (fun _ _ => Nat.zero_le _) true r V W; rw [cntX, stB]; omega
  | d + 1, r, V => cntL_le (by omega) (fun r V => by have := cntX_le n W d r V; omega) false r V W
theorem place_zero {n : Nat} {s : ByteArray} (h3 : 3 ≤ n) (h8 : n ≤ 8) (h : RowN n s) : place s = 0 ↔ s = roundsS n := by
  have h0 := place_rounds n (by omega)
  constructor
  · intro e; exact rowN_inj h (rowN_rounds h3 h8) (by rw [e, h0])
  · intro e; rw [e, h0]
theorem RowN.apply {n : Nat} {r : ByteArray} (h : RowN n r) (c : ByteArray) : RowN n (applyR r c) := ⟨good_apply h.1 c, by rw [applyR_size]; exact h.2⟩
theorem ClOk.snoc {n : Nat} {V : List ByteArray} {x : ByteArray} (h : ClOk n V) (hx : RowN n x) (hn : inL V x = false) : ClOk n (V ++ [x]) := by
  refine ⟨List.nodup_append.2 ⟨h.1, by simp, fun a ha b hb he => ?_⟩, fun s hs => ?_⟩
  · rw [List.mem_singleton.1 hb] at he
    subst he
    rw [inL_iff.2 ha] at hn; cases hn
  · rcases List.mem_append.1 hs with hs | hs
    · exact h.2 s hs
    · rw [List.mem_singleton.1 hs]; exact hx
/-- With all rows seen each row is seen. -/
theorem full_in {n : Nat} {V : List ByteArray} {x : ByteArray} (h : ClOk n V) (hx : RowN n x) (hl : V.length = fact n) : inL V x = true := inL_iff.2 (rows_all h.1 h.2 (by omega) hx)
theorem drop_at {α : Type} {l : List α} {k : Nat} {x : α} (h : l[k]? = some x) : l.drop k = x :: l.drop (k + 1) := by
  obtain ⟨hk, e⟩ := List.getElem?_eq_some_iff.1 h
  rw [List.drop_eq_getElem_cons hk, e]
end Go.Proofs.YthffeljicohpdaaGreatDoor
/- The walks through the order of a row and the rows of a course. -/
namespace Go.Proofs.YthffeljicohpdaaGreatDoor
set_option linter.unusedVariables false
set_option linter.unusedSimpArgs false
open Go.ChangeShapes Go.WideShapes Go.ChangeAt Go.RowKit Go.Deep
theorem rAt_row {n : Nat} {a : ByteArray} (h : RowN n a) (l : List ByteArray) : ∀ k, RowN n (rAt a l k)
  | 0 => h
  | k + 1 => by rw [rAt]; exact (rAt_row h l k).apply _
theorem rowsL_row {n : Nat} {a : ByteArray} (h : RowN n a) (l : List ByteArray) (m : Nat) : ∀ s ∈ rowsL a l m, RowN n s := fun s hs => by
  obtain ⟨k, _, rfl⟩ := List.mem_map.1 hs
  exact rAt_row h l k
theorem bytes_ne' {y s : ByteArray} (h : ¬ y = s) : (y.toList == s.toList) = false := by
  rw [beq_eq_false_iff_ne]; exact fun e => h (toList_inj e)
set_option maxHeartbeats 1000000 in
set_option maxRecDepth 100000 in
theorem spec_l1Order {a : ByteArray} {n : Nat} {w : World} (hg : RowN n a) :
    Calls Tryz.prog 87 #[.string a] w fun e w' => ∃ k : Nat, e = .returned (.int .i64 k) ∧ 1 ≤ k ∧ k ≤ fact n ∧ w = w' := by
  obtain ⟨h3, h8⟩ := hg.st
  have h40 : fact n ≤ 40320 := fact_le8 h8
  have hsz := hg.2
  have HG := Lib.hid hg
  clear hg
  go_in
  go_wp2
  go_loopw [3, 4] (fun v p wr => ∃ k : Nat, 1 ≤ k ∧ v = .int .i64 k ∧ p = .string (pwS n a k) ∧ Hid (∀ j, 1 ≤ j → j < k → pwS n a j ≠ roundsS n) ∧ w = wr) (fun v _ _ => 40321 - (intOf v).toNat)
  case atStart => exact ⟨1, Nat.le_refl _, rfl, by rw [pw_one HG.out], Lib.hid (fun j h1 h2 => absurd h1 (by omega)), rfl⟩
  case round =>
    obtain ⟨k, hk, rfl, rfl, HK, rfl⟩ := hrel
    have hlf : k ≤ fact n := pwL_le HG.out HK.out
    have hle : k ≤ 40320 := Nat.le_trans hlf h40
    have hpN := pw_row HG.out k
    have HPS := Lib.hid (show pwS n a (k + 1) = timesS (pwS n a k) a from rfl)
    have hft := rowN_fits hpN HG.out
    obtain ⟨p, hp⟩ : ∃ p, p = pwS n a k := ⟨_, rfl⟩
    have HP := Lib.hid hp
    rw [← hp] at hpN hft
    rw [← hp]
    have hps : p.size ≤ 16777216 := by rw [hpN.2]; omega
    by_cases he : p = roundsS n
    · have hbe : (p.toList == (roundsS n).toList) = true := by rw [he]; simp
      clear hp he
      go_wp2_with (go_at_call 86; refine (spec_l1Rounds h8).mono ?_; rintro e w' ⟨rfl, rfl⟩)
      go_ret
      exact ⟨k, rfl, hk, hlf, rfl⟩
    · have hbe := bytes_ne' he
      have HN := Lib.hid he
      clear hp he
      go_wp2_with (first | (go_at_call 86; refine (spec_l1Rounds h8).mono ?_; rintro e w' ⟨rfl, rfl⟩) | (go_at_call 98; refine (spec_l1Times hps (by omega) hft).mono ?_; rintro e w' ⟨rfl, rfl⟩))
      go_roundw
      case rel => exact ⟨k + 1, by omega, by go_num, by rw [HPS.out, ← HP.out], Lib.hid (fun j h1 h2 => by
          by_cases e : j = k
          · rw [e, ← HP.out]; exact HN.out
          · exact HK.out j h1 (by omega)), trivial⟩
      case measure => simp [intOf]; omega
set_option maxHeartbeats 1000000 in
set_option maxRecDepth 100000 in
theorem spec_l4Head {A : Option Addr} {n c st : Nat} {nm : ByteArray} {l : List ByteArray} {w : World} (hn : l.length = n) (h : Strs w A l) (hz : n ≤ 1048576) (hs : ∀ s ∈ l, s.size ≤ 16777216) (h8 : st ≤ 8) :
    Calls Tryz.prog 88 #[.agg #[.string nm, .int .i64 (st : Int), .slice A n c]] w fun e w' => e = .returned (.string (rAt (roundsS st) l n)) ∧ Below w.heap.size w w' := by
  have b0 : Below w.heap.size w (w.alloc (.cells ⟨[.string nm, .int .i64 (st : Int), .slice A n c]⟩ 99)) := by (repeat' (first | (with_reducible exact Below.refl _ _) | (with_reducible assumption) | (with_reducible refine below_drewN ?_ _) | (with_reducible refine Below.drew ?_) | (with_reducible refine below_alloc ?_ _) | (with_reducible refine Below.alloc ?_ ?_ _) | (with_reducible refine Below.setCell ?_ ?_ _) | (with_reducible refine below_go ?_ (by with_reducible assumption)) | (with_reducible refine below_then (by with_reducible assumption) ?_ ?_) | go_size))
  have K0 := Blk.at_ w 99 [.string nm, .int .i64 (st : Int), .slice A n c] (b := w.heap.size) rfl
  have HS := Lib.hid hs
  have HN := Lib.hid hn
  have hr8 : (roundsS st).size ≤ 8 := by rw [rounds_size st (by omega)]; exact h8
  clear hs hn
  go_in
  go_upto_region 1 with fail
  obtain ⟨w0, hw0⟩ : ∃ u, u = w.alloc (.cells #[.string nm, .int .i64 (st : Int), .slice A n c] 99) := ⟨_, rfl⟩
  rw [← hw0] at b0 K0 ⊢
  clear hw0
  have H0 := h.up b0
  have k1 := K0.cell 1; have k2 := K0.cell 2
  simp only [List.getElem?_cons_zero, List.getElem?_cons_succ] at k1 k2
  go_region_held3 (fun u => u.cell? ⟨w.heap.size, 1, none⟩ = some (.int .i64 (st : Int)) ∧ u.cell? ⟨w.heap.size, 2, none⟩ = some (.slice A n c)) (first | exact ⟨k1d, k2d⟩ | exact ⟨k1, k2⟩) (first | (go_at_call 86; refine (spec_l1Rounds h8).mono ?_; rintro e w' ⟨rfl, rfl⟩) | (go_at_call 89; refine (spec_l4Lead hr8 HN.out H0.drew (by omega) HS.out).mono ?_; rintro e w1 ⟨A1, c1, rfl, ho, hbd⟩; have hb1 := below_of_drew hbd; have L0 := K0.up hb1; have k1d := L0.cell 1; have k2d := L0.cell 2; simp only [List.getElem?_cons_zero, List.getElem?_cons_succ] at k1d k2d))
  go_wp2
  go_ret
  exact ⟨rfl, below_go b0 hb1⟩
set_option maxHeartbeats 2000000 in
set_option maxRecDepth 100000 in
theorem spec_l4Course {A : Option Addr} {n c st : Nat} {nm : ByteArray} {l : List ByteArray} {w : World} (hn : l.length = n) (h : Strs w A l) (hz : n ≤ 12) (h0 : 1 ≤ n) (hs : ∀ s ∈ l, s.size ≤ 16777216) (h3 : 3 ≤ st) (h6 : st ≤ 6) :
    Calls Tryz.prog 73 #[.agg #[.string nm, .int .i64 (st : Int), .slice A n c]] w fun e w' => ∃ A' m c' L, e = .returned (.slice A' m c') ∧ 1 ≤ m ∧ m ≤ 8640 ∧ Hid (∀ s ∈ L, RowN st s) ∧ Owned strE 1 9 w' w.heap.size A' m c' L ∧ Below w.heap.size w w' := by
  have b0 : Below w.heap.size w (w.alloc (.cells ⟨[.string nm, .int .i64 (st : Int), .slice A n c]⟩ 99)) := by (repeat' (first | (with_reducible exact Below.refl _ _) | (with_reducible assumption) | (with_reducible refine below_drewN ?_ _) | (with_reducible refine Below.drew ?_) | (with_reducible refine below_alloc ?_ _) | (with_reducible refine Below.alloc ?_ ?_ _) | (with_reducible refine Below.setCell ?_ ?_ _) | (with_reducible refine below_go ?_ (by with_reducible assumption)) | (with_reducible refine below_then (by with_reducible assumption) ?_ ?_) | go_size))
  have K0 := Blk.at_ w 99 [.string nm, .int .i64 (st : Int), .slice A n c] (b := w.heap.size) rfl
  have HS := Lib.hid hs
  have HN := Lib.hid hn
  have hR := rowN_rounds h3 (by omega : st ≤ 8)
  have hF : fact st ≤ 720 := by
    have : st = 3 ∨ st = 4 ∨ st = 5 ∨ st = 6 := by omega
    rcases this with rfl | rfl | rfl | rfl <;> decide
  have HH := Lib.hid (rAt_row hR l n)
  clear hs hn
  go_in
  go_wp2_with fail
  obtain ⟨w0, hw0⟩ : ∃ u, u = w.alloc (.cells #[.string nm, .int .i64 (st : Int), .slice A n c] 99) := ⟨_, rfl⟩
  rw [← hw0] at b0 K0 ⊢
  clear hw0
  have H0 := h.up b0
  have k0 := K0.cell 0; have k1 := K0.cell 1; have k2 := K0.cell 2
  simp only [List.getElem?_cons_zero, List.getElem?_cons_succ] at k0 k1 k2
  refine (spec_l1Rounds (by omega : st ≤ 8)).mono ?_; rintro e w' ⟨rfl, rfl⟩
  go_wp2_with fail
  refine (spec_l4Head (nm := nm) (c := c) HN.out H0 (by omega) HS.out (by omega : st ≤ 8)).mono ?_; rintro e w1 ⟨rfl, hb1⟩
  go_wp2_with fail
  refine (spec_l1Order HH.out).mono ?_; rintro e w2 ⟨K, rfl, hK1, hK2, rfl⟩
  have B1 := below_go b0 hb1
  have K1 := K0.up hb1
  have H1 := H0.up hb1
  have R1 := Lib.hid H1
  have KK := Lib.hid K1
  clear H0 K0 k0 k1 k2 h K1 H1 hb1
  have hsz1 := B1.size
  go_wp2
  go_loopw [3, 4, 5] (fun v hh i wr => ∃ (k m : Nat) (A' : Option Addr) (c' : Nat) (L : List ByteArray) (x : ByteArray), k ≤ K ∧ i = .int .i64 k ∧ hh = .string x ∧ v = .slice A' m c' ∧ Hid (m = (K - k) * n) ∧ Hid (RowN st x) ∧ Hid (∀ s ∈ L, RowN st s) ∧ Hid (Owned strE 1 9 wr w1.heap.size A' m c' L) ∧ Below w1.heap.size w1 wr) (fun _ _ i _ => (intOf i).toNat)
  case atStart => exact ⟨K, 0, none, 0, [], roundsS st, Nat.le_refl _, rfl, rfl, rfl, Lib.hid (by rw [Nat.sub_self, Nat.zero_mul]), Lib.hid hR, Lib.hid (fun s hs => by cases hs), Lib.hid (Owned.nil strE_len _ _ _), Below.refl _ _⟩
  case round =>
    obtain ⟨k, m, A2, c2, L, x, hk, rfl, rfl, rfl, hm, HX, HL, HO, hb⟩ := hrel
    rename World => wr
    by_cases h1 : 0 < k
    · have hI : (0 : Int) < (k : Int) := by omega
      have KR := KK.out.up hb
      have k2 := KR.cell 2
      simp only [List.getElem?_cons_zero, List.getElem?_cons_succ] at k2
      have hx8 : x.size ≤ 8 := by rw [HX.out.2]; omega
      have hm1 : m + n ≤ 16777216 := by
        have h2 : (K - k) * n ≤ 720 * 12 := Nat.mul_le_mul (by omega) hz
        have := hm.out
        omega
      have hsz := hb.size
      clear KR
      go_wp2_with fail
      refine (spec_l4Lead hx8 HN.out (R1.out.up hb) (by omega) HS.out).mono ?_; rintro e w5 ⟨A5, c5, rfl, ho5, hb5⟩
      have HO5 := Lib.hid (HO.out.up hb5)
      have HR5 := Lib.hid ho5.recs
      have hsz5 := hb5.size
      have HX5 := Lib.hid (rAt_row HX.out l n)
      have HL5 := Lib.hid (rowsL_row HX.out l n)
      have hrl : (rowsL x l n).length = n := rowsL_len _ _ _
      obtain ⟨R5, hR5⟩ : ∃ R5, R5 = rowsL x l n := ⟨_, rfl⟩
      obtain ⟨x5, hx5⟩ : ∃ x5, x5 = rAt x l n := ⟨_, rfl⟩
      rw [← hR5] at HR5 HL5 hrl
      rw [← hx5] at HX5 ⊢
      clear hR5 hx5 ho5
      go_wp2_with (first | (at_builtin; go_must ((refine wpList_append_recs Tryz.elStr strE_one rfl (.tmp 25) (.tmp 26) rfl rfl HO5.out rfl HR5.out hrl ?_ (by decide) ?_ ?_; (focus (first | omega | (simp only [World.size_alloc]; done) | (simp only [World.size_alloc]; omega) | (simp; done) | (simp; omega))); omega; intro A6 c6 w6 ho6 hg6 hl6; have HO6 := Lib.hid ho6; have HB6 := Lib.hid (grown_base hg6 (by omega) (fun k hk => (HO5.out.blk hk).1)); clear ho6 hg6 hl6))))
      go_roundw
      case rel => exact ⟨k - 1, m + n, A6, c6, L ++ R5, x5, by omega, by go_num, rfl, rfl, Lib.hid (by rw [show K - (k - 1) = (K - k) + 1 by omega, Nat.succ_mul, ← hm.out]), HX5, Lib.hid (fun s hs => by
          rcases List.mem_append.1 hs with hs | hs
          · exact HL.out s hs
          · exact HL5.out s hs), HO6, (below_go hb hb5).trans HB6.out⟩
      case measure => simp [intOf]; omega
    · obtain rfl : k = 0 := by omega
      go_wp2
      go_ret
      have hKn : 1 * 1 ≤ (K - 0) * n := Nat.mul_le_mul (by omega) h0
      have hKn2 : (K - 0) * n ≤ 720 * 12 := Nat.mul_le_mul (by omega) hz
      have hm2 := hm.out
      exact ⟨_, m, _, L, rfl, by omega, by omega, HL, HO.out.base_le hsz1, below_go B1 hb⟩
end Go.Proofs.YthffeljicohpdaaGreatDoor
/- A literal of one element as a row of the call's own (where the library's sort is not on the road). -/
namespace Go.Proofs.YthffeljicohpdaaGreatDoor
set_option linter.unusedVariables false
set_option linter.unusedSimpArgs false
open Go.ChangeShapes Go.WideShapes Go.ChangeAt Go.RowKit Go.Deep
theorem own_lit1_at' {α : Type} {e : α → List Value} {s : Nat} (he : ∀ x, (e x).length = s) (w : World) (E : TypeId) (x : α) {b base : Nat} (h : b = w.heap.size) (hb : base ≤ w.heap.size) : Owned e s E (w.alloc (.cells ⟨e x⟩ E)) base (some ⟨b, 0, none⟩) 1 1 [x] := by
  subst h
  exact ⟨he, rfl, by simpa using World.ownsRow_lit (e := E) (base := base) (size := s) w ⟨e x⟩ 1 hb (by unfold maxLen; omega) (by simp [he])⟩
end Go.Proofs.YthffeljicohpdaaGreatDoor
