/- Strikes cut into rows: plain; a stretch of a list of structs. -/
import Derived.Test.YtoheahbkopbmhaaDoorP21
import Derived.Test.YtoheahbkopbmhaaDoorP01
import Derived.Test.YtoheahbkopbmhaaDoorP2a
import Derived.Test.YtoheahbkopbmhaaDoorApp
namespace Go.Proofs.YtoheahbkopbmhaaDoor
set_option linter.unusedVariables false
set_option linter.unusedSimpArgs false
open Go.ChangeShapes Go.WideShapes Go.ChangeAt Go.RowKit Go.Deep
theorem Recs.sub {α : Type} {e : α → List Value} {s : Nat} {w : World} {b o : Nat} {l : List α} (h : Recs e s w (some ⟨b, o, none⟩) l) {i n : Nat} (hin : i + n ≤ l.length) : Recs e s w (some ⟨b, o + i * s, none⟩) ((l.drop i).take n) := by
  have hl : ((l.drop i).take n).length = n := by simp; omega
  have h1 : (((l.drop i).take n).flatMap e).length = n * s := by rw [flatMap_len h.1, hl]
  refine ⟨h.1, by rw [hl]; exact h1, fun hn => ?_⟩
  rw [hl] at hn
  obtain ⟨b', o', hA, hb, hc⟩ := h.2.2 (by omega)
  injection hA with hA
  injection hA with e1 e2 _
  subst e1 e2
  refine ⟨b, o + i * s, rfl, hb, fun j u hu => ?_⟩
  rw [Nat.add_assoc]
  refine hc (i * s + j) u ?_
  have hj : j < n * s := by rw [← h1]; exact (List.getElem?_eq_some_iff.1 hu).1
  have e3 : l.flatMap e = (l.take i).flatMap e ++ (((l.drop i).take n).flatMap e ++ ((l.drop i).drop n).flatMap e) := by
    rw [← List.flatMap_append, ← List.flatMap_append, List.take_append_drop, List.take_append_drop]
  have e4 : ((l.take i).flatMap e).length = i * s := by rw [flatMap_len h.1, List.length_take, Nat.min_eq_left (by omega)]
  rw [e3, List.getElem?_append_right (by omega), e4, Nat.add_sub_cancel_left, List.getElem?_append_left (by omega)]
  exact hu
/-- The row that some strikes ring. -/
def rowB (l : List (Int × Int)) : ByteArray := strOfNums (l.map fun x => 48 + x.1)
theorem rowB_0 : rowB [] = ⟨#[]⟩ := rfl
theorem rowB_snoc (l : List (Int × Int)) (x : Int × Int) : rowB (l ++ [x]) = rowB l ++ dig1 x.1 := by
  rw [rowB, rowB, dig1, strOf_append, List.map_append]; rfl
theorem rowB_size (l : List (Int × Int)) : (rowB l).size = l.length := by rw [rowB, strOfNums_size, List.length_map]
def cutAt (l : List (Int × Int)) (n k : Nat) : ByteArray := rowB ((l.drop (k * n)).take n)
def cutAll (l : List (Int × Int)) (n : Nat) : Bool := (List.range (l.length / n)).all fun k => goodRow (cutAt l n k)
def cutOk (l : List (Int × Int)) (n : Int) : Bool := (goodStrikes l && inB n 3 8) && cutAll l n.toNat
def cutL (l : List (Int × Int)) (n : Int) : List ByteArray := if cutOk l n = true then (List.range (l.length / n.toNat)).map (cutAt l n.toNat) else []
theorem cutL_f {l : List (Int × Int)} {n : Int} (h : cutOk l n = false) : cutL l n = [] := if_neg (by rw [h]; simp)
theorem cutL_t {l : List (Int × Int)} {n : Nat} (h : cutOk l n = true) : cutL l n = (List.range (l.length / n)).map (cutAt l n) := if_pos h
def cutR (l : List (Int × Int)) (n k : Nat) : List ByteArray := (List.range k).map (cutAt l n)
theorem cutR_succ (l : List (Int × Int)) (n k : Nat) : cutR l n (k + 1) = cutR l n k ++ [cutAt l n k] := by rw [cutR, List.range_succ, List.map_append]; rfl
theorem cut_bad {l : List (Int × Int)} {n k : Nat} (hk : k < l.length / n) (h : goodRow (cutAt l n k) = false) : cutAll l n = false := by
  rcases q : cutAll l n
  · rfl
  · rw [cutAll, List.all_eq_true] at q
    rw [q k (List.mem_range.2 hk)] at h; cases h
theorem cut_good {l : List (Int × Int)} {n : Nat} (h : ∀ k, k < l.length / n → goodRow (cutAt l n k) = true) : cutAll l n = true := by
  rw [cutAll, List.all_eq_true]
  exact fun k hk => h k (List.mem_range.1 hk)
theorem cut_step {a n k : Nat} (hn : 0 < n) : k * n + n ≤ a ↔ k < a / n := by
  rw [Nat.lt_div_iff_mul_lt hn]
  constructor
  · intro h
    have : n * k + n ≤ a := by rw [Nat.mul_comm]; exact h
    omega
  · intro h
    have h2 : (k + 1) * n ≤ a := by
      have := (Nat.le_div_iff_mul_le hn (x := k + 1) (y := a)).1 (by
        have := (Nat.lt_div_iff_mul_lt hn (x := k) (y := a)).2 h
        omega)
      exact this
    rw [Nat.succ_mul] at h2
    exact h2
end Go.Proofs.YtoheahbkopbmhaaDoor
