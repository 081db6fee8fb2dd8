/- Stable merging of strikes, in plain Lean. -/
import Derived.Test.YthffeljicohpdaaWmrg
namespace Go.Proofs.Ythffeljicohpdaa
set_option linter.unusedVariables false
set_option linter.unusedSimpArgs false
open Go.ChangeShapes Go.WideShapes Go.ChangeAt Go.RowKit Go.Deep
theorem mgT_nil (l : List (Int × Int)) : List.merge [] l leT = l := by simp
theorem mgT_nil' (l : List (Int × Int)) : List.merge l [] leT = l := by simp
/-- A merge may be cut where all that lies to the left is to come first. -/
theorem mgT_cut (n : Nat) : ∀ (A1 B1 A2 B2 : List (Int × Int)), A1.length + B1.length ≤ n → (∀ x ∈ A1, ∀ y ∈ B2, x.2 ≤ y.2) → (∀ x ∈ A2, ∀ y ∈ B1, y.2 < x.2) →
    List.merge (A1 ++ A2) (B1 ++ B2) leT = List.merge A1 B1 leT ++ List.merge A2 B2 leT := by
  induction n with
  | zero =>
    intro A1 B1 A2 B2 hn _ _
    obtain rfl := List.eq_nil_of_length_eq_zero (show A1.length = 0 by omega)
    obtain rfl := List.eq_nil_of_length_eq_zero (show B1.length = 0 by omega)
    simp
  | succ n ih =>
    intro A1 B1 A2 B2 hn h1 h2
    rcases A1 with _ | ⟨x, A1⟩
    · rcases B1 with _ | ⟨y, B1⟩
      · simp
      · rcases A2 with _ | ⟨z, A2⟩
        · simp
        · rw [List.nil_append, List.cons_append, mgT_right (h2 z (List.mem_cons_self ..) y (List.mem_cons_self ..))]
          have := ih [] B1 (z :: A2) B2 (by simp at hn ⊢; omega) (fun x hx => by cases hx) (fun x hx y hy => h2 x hx y (List.mem_cons_of_mem _ hy))
          rw [List.nil_append] at this
          rw [this, mgT_nil, mgT_nil, List.cons_append]
    · rcases B1 with _ | ⟨y, B1⟩
      · rcases B2 with _ | ⟨z, B2⟩
        · simp
        · have hx := h1 x (List.mem_cons_self ..) z (List.mem_cons_self ..)
          rw [List.nil_append, List.cons_append, mgT_left (by omega)]
          have := ih A1 [] A2 (z :: B2) (by simp at hn ⊢; omega) (fun x hx y hy => h1 x (List.mem_cons_of_mem _ hx) y hy) (fun x hx y hy => by cases hy)
          rw [List.nil_append] at this
          rw [this, mgT_nil', mgT_nil', List.cons_append]
      · by_cases h : y.2 < x.2
        · have := ih (x :: A1) B1 A2 B2 (by simp at hn ⊢; omega) h1 (fun x hx y hy => h2 x hx y (List.mem_cons_of_mem _ hy))
          rw [List.cons_append] at this
          rw [List.cons_append, List.cons_append, mgT_right h, mgT_right h, this, List.cons_append]
        · have := ih A1 (y :: B1) A2 B2 (by simp at hn ⊢; omega) (fun x hx y hy => h1 x (List.mem_cons_of_mem _ hx) y hy) h2
          rw [List.cons_append] at this
          rw [List.cons_append, List.cons_append, mgT_left h, mgT_left h, this, List.cons_append]
theorem mgT_first {x : Int × Int} {B1 B2 : List (Int × Int)} (h1 : ∀ y ∈ B1, y.2 < x.2) (h2 : ∀ y ∈ B2, x.2 ≤ y.2) : List.merge [x] (B1 ++ B2) leT = B1 ++ x :: B2 := by
  have e1 := mgT_cut _ [] B1 [x] B2 (Nat.le_refl _) (fun x hx => by cases hx) (fun z hz y hy => by rw [List.mem_singleton.1 hz]; exact h1 y hy)
  have e2 := mgT_cut _ [x] [] [] B2 (Nat.le_refl _) (fun z hz y hy => by rw [List.mem_singleton.1 hz]; exact h2 y hy) (fun x hx => by cases hx)
  simp only [List.nil_append, List.append_nil, mgT_nil, mgT_nil'] at e1 e2
  rw [e1, e2]; rfl
theorem mgT_last {x : Int × Int} {A1 A2 : List (Int × Int)} (h1 : ∀ y ∈ A1, y.2 ≤ x.2) (h2 : ∀ y ∈ A2, x.2 < y.2) : List.merge (A1 ++ A2) [x] leT = A1 ++ x :: A2 := by
  have e1 := mgT_cut _ A1 [x] A2 [] (Nat.le_refl _) (fun x hx y hy => by cases hy) (fun z hz y hy => by rw [List.mem_singleton.1 hy]; exact h2 z hz)
  have e2 := mgT_cut _ A1 [] [] [x] (Nat.le_refl _) (fun z hz y hy => by rw [List.mem_singleton.1 hy]; exact h1 z hz) (fun x hx y hy => by cases hy)
  simp only [List.nil_append, List.append_nil, mgT_nil, mgT_nil'] at e1 e2
  rw [e1, e2]; simp
theorem mgT_one (x : Int × Int) (n : Nat) : ∀ p q : List (Int × Int), p.length + q.length ≤ n → List.merge [x] (List.merge p q leT) leT = List.merge (List.merge [x] p leT) q leT := by
  induction n with
  | zero =>
    intro p q hn
    obtain rfl := List.eq_nil_of_length_eq_zero (show p.length = 0 by omega)
    obtain rfl := List.eq_nil_of_length_eq_zero (show q.length = 0 by omega)
    simp
  | succ n ih =>
    intro p q hn
    rcases p with _ | ⟨a, p⟩
    · rw [mgT_nil, mgT_nil']
    rcases q with _ | ⟨b, q⟩
    · rw [mgT_nil', mgT_nil']
    by_cases hba : b.2 < a.2
    · rw [mgT_right hba]
      by_cases hbx : b.2 < x.2
      · rw [mgT_right hbx, ih (a :: p) q (by simp at hn ⊢; omega)]
        by_cases hax : a.2 < x.2
        · rw [mgT_right hax, mgT_right hba]
        · rw [mgT_left hax, mgT_nil, mgT_right hbx]
      · rw [mgT_left hbx, mgT_nil, mgT_left (show ¬ a.2 < x.2 by omega), mgT_nil, mgT_left hbx, mgT_right hba]
    · rw [mgT_left hba]
      by_cases hax : a.2 < x.2
      · rw [mgT_right hax, mgT_right hax, mgT_left hba, ih p (b :: q) (by simp at hn ⊢; omega)]
      · rw [mgT_left hax, mgT_nil, mgT_left hax, mgT_nil, mgT_left (show ¬ b.2 < x.2 by omega), mgT_left hba]
/-- A list in order of time, those of the same time as they stood. -/
def stT : List (Int × Int) → List (Int × Int)
  | [] => []
  | x :: l => List.merge [x] (stT l) leT
theorem stT_app : ∀ l m, stT (l ++ m) = List.merge (stT l) (stT m) leT
  | [], m => by rw [List.nil_append, stT, mgT_nil]
  | x :: l, m => by rw [List.cons_append, stT, stT, stT_app l m, mgT_one x _ _ _ (Nat.le_refl _)]
def srtT (l : List (Int × Int)) : Prop := l.Pairwise fun x y => x.2 ≤ y.2
theorem stT_of : ∀ {l}, srtT l → stT l = l
  | [], _ => rfl
  | x :: l, h => by
    obtain ⟨h1, h2⟩ := List.pairwise_cons.1 h
    rw [stT, stT_of h2]
    exact mgT_first (B1 := []) (fun y hy => by cases hy) h1
theorem stT_one (x : Int × Int) : stT [x] = [x] := by rw [stT, stT, mgT_nil']
theorem stT_snoc (l : List (Int × Int)) (x : Int × Int) : stT (l ++ [x]) = List.merge (stT l) [x] leT := by rw [stT_app, stT_one]
theorem mgT_mem {A B : List (Int × Int)} {x : Int × Int} : x ∈ List.merge A B leT ↔ x ∈ A ∨ x ∈ B := by
  rw [(List.merge_perm_append (le := leT)).mem_iff, List.mem_append]
theorem mgT_len (A B : List (Int × Int)) : (List.merge A B leT).length = A.length + B.length := by
  rw [(List.merge_perm_append (le := leT)).length_eq, List.length_append]
theorem stT_len : ∀ l, (stT l).length = l.length
  | [] => rfl
  | x :: l => by rw [stT, mgT_len, stT_len l]; simp; omega
theorem mgT_srt {A B : List (Int × Int)} (h : srtT A) (g : srtT B) : srtT (List.merge A B leT) := by
  have key : ∀ x y : Int × Int, leT x y = true ↔ x.2 ≤ y.2 := fun x y => by rw [leT]; simp
  have h' : A.Pairwise fun x y => leT x y = true := h.imp fun q => (key _ _).2 q
  have g' : B.Pairwise fun x y => leT x y = true := g.imp fun q => (key _ _).2 q
  have := List.pairwise_merge (le := leT) (fun a b c q r => (key a c).2 (Int.le_trans ((key a b).1 q) ((key b c).1 r))) (fun a b => by
    rcases Int.le_total a.2 b.2 with q | q
    · rw [(key a b).2 q]; rfl
    · rw [(key b a).2 q, Bool.or_true]) A B h' g'
  exact this.imp fun q => (key _ _).1 q
theorem stT_srt : ∀ l, srtT (stT l)
  | [] => List.Pairwise.nil
  | x :: l => mgT_srt (List.pairwise_singleton ..) (stT_srt l)
theorem stT_merge {a b : List (Int × Int)} (ha : srtT a) (hb : srtT b) : stT (a ++ b) = List.merge a b leT := by rw [stT_app, stT_of ha, stT_of hb]
end Go.Proofs.Ythffeljicohpdaa
