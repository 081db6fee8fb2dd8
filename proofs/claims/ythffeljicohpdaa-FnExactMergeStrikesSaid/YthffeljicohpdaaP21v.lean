/- Merging by symmetric comparisons, in plain Lean: where the halves are cut. -/
import Derived.Test.YthffeljicohpdaaWsw3
namespace Go.Proofs.Ythffeljicohpdaa
set_option linter.unusedVariables false
set_option linter.unusedSimpArgs false
open Go.ChangeShapes Go.WideShapes Go.ChangeAt Go.RowKit Go.Deep
theorem srtT_le {l : List (Int × Int)} (h : srtT l) {i j : Nat} {x y : Int × Int} (hij : i ≤ j) (hx : l[i]? = some x) (hy : l[j]? = some y) : x.2 ≤ y.2 := by
  rcases Nat.lt_or_ge i j with hlt | hge
  · obtain ⟨h1, e1⟩ := List.getElem?_eq_some_iff.1 hx
    obtain ⟨h2, e2⟩ := List.getElem?_eq_some_iff.1 hy
    have := (List.pairwise_iff_getElem.1 h) i j h1 h2 hlt
    rw [e1, e2] at this; exact this
  · obtain rfl : i = j := by omega
    rw [hx] at hy; injection hy with hy; rw [hy]; exact Int.le_refl _
theorem take_mem {l : List (Int × Int)} {k : Nat} {x : Int × Int} (h : x ∈ l.take k) : ∃ i, i < k ∧ l[i]? = some x := by
  obtain ⟨i, hi⟩ := List.mem_iff_getElem?.1 h
  rw [List.getElem?_take] at hi
  by_cases hk : i < k
  · rw [if_pos hk] at hi; exact ⟨i, hk, hi⟩
  · rw [if_neg hk] at hi; cases hi
theorem drop_mem {l : List (Int × Int)} {k : Nat} {x : Int × Int} (h : x ∈ l.drop k) : ∃ i, k ≤ i ∧ l[i]? = some x := by
  obtain ⟨i, hi⟩ := List.mem_iff_getElem?.1 h
  rw [List.getElem?_drop] at hi
  exact ⟨k + i, by omega, hi⟩
theorem sym_first {LB : List (Int × Int)} {x : Int × Int} {k : Nat} (h1 : ∀ t (s : Int × Int), t < k → LB[t]? = some s → s.2 < x.2) (h2 : ∀ t (s : Int × Int), k ≤ t → LB[t]? = some s → x.2 ≤ s.2) : List.merge [x] LB leT = LB.take k ++ x :: LB.drop k := by
  have := mgT_first (x := x) (B1 := LB.take k) (B2 := LB.drop k) (fun y hy => by
    obtain ⟨i, hi, e⟩ := take_mem hy
    exact h1 i y hi e) (fun y hy => by
    obtain ⟨i, hi, e⟩ := drop_mem hy
    exact h2 i y hi e)
  rw [List.take_append_drop] at this
  exact this
theorem sym_last {LA : List (Int × Int)} {x : Int × Int} {k : Nat} (h1 : ∀ t (s : Int × Int), t < k → LA[t]? = some s → s.2 ≤ x.2) (h2 : ∀ t (s : Int × Int), k ≤ t → LA[t]? = some s → x.2 < s.2) : List.merge LA [x] leT = LA.take k ++ x :: LA.drop k := by
  have := mgT_last (x := x) (A1 := LA.take k) (A2 := LA.drop k) (fun y hy => by
    obtain ⟨i, hi, e⟩ := take_mem hy
    exact h1 i y hi e) (fun y hy => by
    obtain ⟨i, hi, e⟩ := drop_mem hy
    exact h2 i y hi e)
  rw [List.take_append_drop] at this
  exact this
def symI (LA LB : List (Int × Int)) (k h : Nat) : Prop := k = 0 ∨ h = LB.length ∨ ∃ x y : Int × Int, LA[k - 1]? = some x ∧ LB[h]? = some y ∧ x.2 ≤ y.2
def symJ (LA LB : List (Int × Int)) (k h : Nat) : Prop := k = LA.length ∨ h = 0 ∨ ∃ x y : Int × Int, LA[k]? = some x ∧ LB[h - 1]? = some y ∧ y.2 < x.2
theorem sym_cut {LA LB : List (Int × Int)} {k h : Nat} (hA : srtT LA) (hB : srtT LB) (h1 : symI LA LB k h) (h2 : symJ LA LB k h) : List.merge LA LB leT = List.merge (LA.take k) (LB.take h) leT ++ List.merge (LA.drop k) (LB.drop h) leT := by
  have := mgT_cut _ (LA.take k) (LB.take h) (LA.drop k) (LB.drop h) (Nat.le_refl _) (fun x hx y hy => by
    obtain ⟨i, hi, ei⟩ := take_mem hx
    obtain ⟨j, hj, ej⟩ := drop_mem hy
    have hj2 := (List.getElem?_eq_some_iff.1 ej).1
    rcases h1 with h1 | h1 | ⟨x', y', ex, ey, hxy⟩
    · omega
    · omega
    · have a1 := srtT_le hA (show i ≤ k - 1 by omega) ei ex
      have a2 := srtT_le hB hj ey ej
      omega) (fun x hx y hy => by
    obtain ⟨i, hi, ei⟩ := drop_mem hx
    obtain ⟨j, hj, ej⟩ := take_mem hy
    have hi2 := (List.getElem?_eq_some_iff.1 ei).1
    rcases h2 with h2 | h2 | ⟨x', y', ex, ey, hxy⟩
    · omega
    · omega
    · have a1 := srtT_le hA hi ex ei
      have a2 := srtT_le hB (show j ≤ h - 1 by omega) ej ey
      omega)
  rw [List.take_append_drop, List.take_append_drop] at this
  exact this
theorem srtT_take {l : List (Int × Int)} (h : srtT l) (k : Nat) : srtT (l.take k) := List.Pairwise.sublist (List.take_sublist k l) h
theorem srtT_drop {l : List (Int × Int)} (h : srtT l) (k : Nat) : srtT (l.drop k) := List.Pairwise.sublist (List.drop_sublist k l) h
theorem midT_take {l : List (Int × Int)} (h : midT l) (k : Nat) : midT (l.take k) := fun s hs => h s (List.mem_of_mem_take hs)
theorem midT_drop {l : List (Int × Int)} (h : midT l) (k : Nat) : midT (l.drop k) := fun s hs => h s (List.mem_of_mem_drop hs)
theorem midT_merge {a b : List (Int × Int)} (ha : midT a) (hb : midT b) : midT (List.merge a b leT) := fun s hs => by
  rcases mgT_mem.1 hs with h | h
  · exact ha s h
  · exact hb s h
theorem midT_stT {l : List (Int × Int)} (h : midT l) : midT (stT l) := fun s hs => h s (stT_mem hs)
theorem swL_adj2 {P R : List (Int × Int)} {x y : Int × Int} {j : Nat} (h : P.length = j) : swL (P ++ (x :: y :: R)) j (j + 1) = P ++ (y :: x :: R) := by
  subst h
  apply List.ext_getElem?
  intro t
  rw [swL_at (by simp) (by simp) (by omega)]
  simp only [List.getElem?_append]
  by_cases c1 : t < P.length
  · rw [if_neg (by omega), if_neg (by omega), if_pos c1, if_pos c1]
  · by_cases c2 : t = P.length
    · subst c2
      simp
    · by_cases c3 : t = P.length + 1
      · subst c3
        simp
      · rw [if_neg c2, if_neg c3, if_neg c1, if_neg c1]
        obtain ⟨q, hq⟩ : ∃ q, t - P.length = q + 2 := ⟨t - P.length - 2, by omega⟩
        rw [hq]; rfl
end Go.Proofs.Ythffeljicohpdaa
