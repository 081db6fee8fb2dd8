/- Rows as plain functions: which texts are rows, which rows are even. -/
import Derived.Test.YtoheahbkopbmhaaDoorP02
import Derived.Test.YtoheahbkopbmhaaDoorP19
namespace Go.Proofs.YtoheahbkopbmhaaDoor
set_option linter.unusedVariables false
set_option linter.unusedSimpArgs false
open Go.ChangeShapes Go.WideShapes Go.ChangeAt Go.RowKit Go.Deep
def fresh (s : ByteArray) (i : Nat) (k : Nat) : Bool := !(dg s k == dg s i)
def okDig (s : ByteArray) (i : Nat) : Bool := inB (dg s i) 1 s.size && (List.range i).all (fresh s i)
def goodRow (s : ByteArray) : Bool := inB s.size 3 8 && (List.range s.size).all (okDig s)
theorem goodRow_stage {s : ByteArray} (h : inB s.size 3 8 = false) : goodRow s = false := by simp [goodRow, h]
theorem goodRow_all {s : ByteArray} (h : inB s.size 3 8 = true) : goodRow s = (List.range s.size).all (okDig s) := by simp [goodRow, h]
theorem goodRow_n {s : ByteArray} (h : goodRow s = true) : 3 ≤ s.size ∧ s.size ≤ 8 := by
  rcases hs : inB (s.size : Int) 3 8
  · rw [goodRow_stage hs] at h; cases h
  · have := inB_t hs; omega
/-! even rows -/
def tg (s : ByteArray) (i : Nat) : Nat → Bool → Bool
  | 0, b => b
  | k + 1, b => if dg s i < dg s k then !(tg s i k b) else tg s i k b
theorem tg_0 (s : ByteArray) (i : Nat) (b : Bool) : tg s i 0 b = b := rfl
theorem tg_yes {s : ByteArray} {i k : Nat} (h : PlainAid.bt s i < PlainAid.bt s k) (b : Bool) : tg s i (k + 1) b = !(tg s i k b) := by rw [tg, if_pos (by simp only [dg]; omega)]
theorem tg_no {s : ByteArray} {i k : Nat} (h : ¬ PlainAid.bt s i < PlainAid.bt s k) (b : Bool) : tg s i (k + 1) b = tg s i k b := by rw [tg, if_neg (by simp only [dg]; omega)]
def evo (s : ByteArray) : Nat → Bool
  | 0 => true
  | i + 1 => tg s i i (evo s i)
def evenRow (s : ByteArray) : Bool := evo s s.size
/-! lists of rows -/
def okRow (l : List ByteArray) (k : Nat) : Bool := goodRow (l.getD k ByteArray.empty) && ((l.getD k ByteArray.empty).size == (l.getD 0 ByteArray.empty).size)
theorem okRow_at {l : List ByteArray} {k : Nat} {x y : ByteArray} (h0 : l[0]? = some x) (h : l[k]? = some y) : okRow l k = (goodRow y && (y.size == x.size)) := by simp [okRow, List.getD, h0, h]
def goodRows (l : List ByteArray) : Bool := (List.range l.length).all (okRow l) && decide (l.length ≤ 800)
theorem goodRows_mem {l : List ByteArray} (h : goodRows l = true) : ∀ s ∈ l, goodRow s = true := by
  intro s hs
  obtain ⟨k, hk⟩ := List.getElem?_of_mem hs
  rw [goodRows, Bool.and_eq_true, List.all_eq_true] at h
  have := h.1 k (List.mem_range.2 (List.getElem?_eq_some_iff.1 hk).1)
  simp only [okRow, List.getD, hk, Option.getD_some, Bool.and_eq_true] at this
  exact this.1
theorem goodRows_len {l : List ByteArray} (h : goodRows l = true) : l.length ≤ 800 := by
  rw [goodRows, Bool.and_eq_true] at h
  exact of_decide_eq_true h.2
def signsR (l : List ByteArray) : List Bool := if goodRows l = true then l.map evenRow else []
theorem signsR_f {l : List ByteArray} (h : goodRows l = false) : signsR l = [] := by rw [signsR, if_neg (by rw [h]; simp)]
theorem signsR_t {l : List ByteArray} (h : goodRows l = true) : signsR l = l.map evenRow := by rw [signsR, if_pos h]
theorem map_take_succ {α β : Type} (f : α → β) {l : List α} {k : Nat} {y : α} (h : l[k]? = some y) : (l.map f).take (k + 1) = (l.map f).take k ++ [f y] := by
  rw [List.take_add_one, List.getElem?_map, h]; rfl
/-! the program's bits -/
def mask (s : ByteArray) : Nat → Nat
  | 0 => 0
  | k + 1 => mask s k ||| (1 <<< (dg s k - 1).toNat)
theorem mask_0 (s : ByteArray) : mask s 0 = 0 := rfl
theorem mask_bit {s : ByteArray} {i : Nat} : ∀ (k : Nat), (∀ j, j < k → 1 ≤ dg s j) → 1 ≤ dg s i → (mask s k).testBit (dg s i - 1).toNat = !(List.range k).all (fresh s i)
  | 0, _, _ => by simp [mask]
  | k + 1, h, hi => by
    have ih := mask_bit (s := s) (i := i) k (fun j hj => h j (by omega)) hi
    have hk := h k (by omega)
    rw [mask, Nat.testBit_or, ih, List.range_succ, List.all_append, Nat.one_shiftLeft, Nat.testBit_two_pow]
    have : decide ((dg s k - 1).toNat = (dg s i - 1).toNat) = !(fresh s i k) := by
      rw [Bool.eq_iff_iff]
      simp only [fresh, decide_eq_true_eq, Bool.not_not, beq_iff_eq]
      omega
    rw [this]
    simp
theorem bits_and : ∀ m : Nat, m < 256 → ∀ b : Nat, b < 8 → (bits BinOp.and IntKind.i64 ((m : Int) / 2 ^ b) 1 == 1) = Nat.testBit m b :=
  of_decide_eq_true (by kernel_rfl)
theorem bits_or : ∀ m : Nat, m < 256 → ∀ b : Nat, b < 8 → bits BinOp.or IntKind.i64 (m : Int) (wrap64 (2 ^ b)) = ((m ||| (1 <<< b) : Nat) : Int) ∧ (m ||| (1 <<< b)) < 256 :=
  of_decide_eq_true (by kernel_rfl)
end Go.Proofs.YtoheahbkopbmhaaDoor
