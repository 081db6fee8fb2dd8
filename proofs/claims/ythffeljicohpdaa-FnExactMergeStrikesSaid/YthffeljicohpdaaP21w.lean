/- Blocks put in order one by one, in plain Lean. -/
import Derived.Test.YthffeljicohpdaaP21v
namespace Go.Proofs.Ythffeljicohpdaa
set_option linter.unusedVariables false
set_option linter.unusedSimpArgs false
open Go.ChangeShapes Go.WideShapes Go.ChangeAt Go.RowKit Go.Deep
/-- A list whose blocks of s elements each are put in order (the last block may be shorter). -/
inductive BlkT (s : Nat) : List (Int × Int) → List (Int × Int) → Prop
  | last {l : List (Int × Int)} (h : l.length ≤ s) : BlkT s l (stT l)
  | cons {X l d : List (Int × Int)} (hX : X.length = s) (h : BlkT s l d) : BlkT s (X ++ l) (stT X ++ d)
/-- The same of whole blocks alone. -/
inductive FullT (s : Nat) : List (Int × Int) → List (Int × Int) → Prop
  | nil : FullT s [] []
  | snoc {X l d : List (Int × Int)} (h : FullT s l d) (hX : X.length = s) : FullT s (l ++ X) (d ++ stT X)
theorem FullT.len {s : Nat} {l d : List (Int × Int)} (h : FullT s l d) : d.length = l.length := by
  induction h with
  | nil => rfl
  | snoc _ _ ih => rw [List.length_append, List.length_append, ih, stT_len]
theorem BlkT.len {s : Nat} {l d : List (Int × Int)} (h : BlkT s l d) : d.length = l.length := by
  induction h with
  | last _ => exact stT_len _
  | cons _ _ ih => rw [List.length_append, List.length_append, ih, stT_len]
theorem FullT.join {s : Nat} {l d : List (Int × Int)} (h : FullT s l d) : ∀ {l' d' : List (Int × Int)}, BlkT s l' d' → BlkT s (l ++ l') (d ++ d') := by
  induction h with
  | nil => intro l' d' h'; exact h'
  | snoc _ hX ih => intro l' d' h'; rw [List.append_assoc, List.append_assoc]; exact ih (.cons hX h')
theorem BlkT.nil {s : Nat} : BlkT s [] [] := .last (Nat.zero_le _)
theorem BlkT.uncons {s : Nat} {L D : List (Int × Int)} (h : BlkT s L D) (hL : s ≤ L.length) : ∃ X l d, X.length = s ∧ L = X ++ l ∧ D = stT X ++ d ∧ BlkT s l d := by
  cases h with
  | last h1 => exact ⟨L, [], [], by omega, by simp, by simp, .nil⟩
  | cons hX h' => exact ⟨_, _, _, hX, rfl, rfl, h'⟩
theorem BlkT.small {s : Nat} {L D : List (Int × Int)} (h : BlkT s L D) (h0 : 0 < s) (hL : L.length ≤ s) : D = stT L := by
  cases h with
  | last h1 => rfl
  | @cons X l d hX h' =>
    have hl : l = [] := List.eq_nil_of_length_eq_zero (by rw [List.length_append] at hL; omega)
    subst hl
    have hd : d = [] := List.eq_nil_of_length_eq_zero h'.len
    rw [hd, List.append_nil, List.append_nil]
theorem midT_app {a b : List (Int × Int)} (h : midT (a ++ b)) : midT a ∧ midT b := ⟨fun s hs => h s (List.mem_append_left _ hs), fun s hs => h s (List.mem_append_right _ hs)⟩
end Go.Proofs.Ythffeljicohpdaa
