/- The laws' own conversions of []impl.Line and of impl.Proof: copying, comparing, counting. -/
import Derived.Test.YtoheahbkopbmhaaDoorCstrs
import Derived.StillTailTactics
namespace Go.Proofs.YtoheahbkopbmhaaDoor
set_option linter.unusedVariables false
set_option linter.unusedSimpArgs false
open Go.ChangeShapes Go.WideShapes Go.ChangeAt Go.RowKit Go.Deep
abbrev Line3 := ByteArray × Int × Int
abbrev lineE : ByteArray × Int × Int → List Value := fun s => [.string s.1, .int .i64 s.2.1, .int .i64 s.2.2]
theorem lineE_len (s : Line3) : (lineE s).length = 3 := rfl
theorem Tryd.elLine : ElemOk Tryd.prog 23 33 (.agg #[.string ByteArray.empty, .int .i64 0, .int .i64 0]) 3 32 := ⟨Tryd.underlying23, by kernel_rfl, rfl, by decide⟩
theorem laws_eqLine (a0 b0 : ByteArray) (a1 a2 b1 b2 : Int) (w : World) :
    Calls Tryd.prog 35 #[.agg #[.string a0, .int .i64 a1, .int .i64 a2], .agg #[.string b0, .int .i64 b1, .int .i64 b2]] w fun e w' => e = .returned (.bool (decide ((a0, a1, a2) = (b0, b1, b2)))) ∧ Below w.heap.size w w' := by
  have E : Hid (∀ p : Bool, p = decide (a0 = b0 ∧ a1 = b1 ∧ a2 = b2) → p = decide ((a0, a1, a2) = (b0, b1, b2))) := fun p h => by rw [h]; simp
  rcases hne : (a0.toList == b0.toList)
  · have hd := Lib.hid (show ¬ a0 = b0 from fun e => by rw [e] at hne; simp at hne)
    go_in
    go_wp2
    all_goals go_ret
    all_goals refine ⟨ret_bool (E.out _ ?_), by (repeat' (first | (with_reducible exact Below.refl _ _) | (with_reducible assumption) | (with_reducible refine below_drewN ?_ _) | (with_reducible refine Below.drew ?_) | (with_reducible refine below_alloc ?_ _) | (with_reducible refine Below.alloc ?_ ?_ _) | (with_reducible refine Below.setCell ?_ ?_ _) | (with_reducible refine below_go ?_ (by with_reducible assumption)) | (with_reducible refine below_then (by with_reducible assumption) ?_ ?_) | go_size))⟩
    all_goals simp [hd.out]
  · have hd := Lib.hid (bytes_same hne)
    go_in
    go_wp2
    all_goals go_ret
    all_goals refine ⟨ret_bool (E.out _ ?_), by (repeat' (first | (with_reducible exact Below.refl _ _) | (with_reducible assumption) | (with_reducible refine below_drewN ?_ _) | (with_reducible refine Below.drew ?_) | (with_reducible refine below_alloc ?_ _) | (with_reducible refine Below.alloc ?_ ?_ _) | (with_reducible refine Below.setCell ?_ ?_ _) | (with_reducible refine below_go ?_ (by with_reducible assumption)) | (with_reducible refine below_then (by with_reducible assumption) ?_ ?_) | go_size))⟩
    all_goals simp_all [hd.out]
set_option maxRecDepth 100000 in
theorem laws_eqLineS (A C : Option Addr) (n n' c d : Nat) (l m : List Line3) (w : World) (hn : l.length = n) (hn' : m.length = n') (h : Recs lineE 3 w A l) (g : Recs lineE 3 w C m) (hz : n ≤ 16777216) (hz' : n' ≤ 16777216) :
    Calls Tryd.prog 19 #[.slice A n c, .slice C n' d] w fun e w' => e = .returned (.bool (decide (l = m))) ∧ Below w.heap.size w w' := by
  subst hn hn'
  by_cases hl : l.length = m.length
  · have HL := Lib.hid hl
    rw [← hl]
    clear hl
    go_in
    go_wp2
    go_loopw [5] (fun i wr => ∃ k : Nat, k ≤ l.length ∧ i = .int .i64 k ∧ Hid (∀ j, j < k → l[j]? = m[j]?) ∧ Below w.heap.size w wr) (fun i _ => l.length - (intOf i).toNat)
    case atStart => exact ⟨0, Nat.zero_le _, rfl, Lib.hid (fun j hj => absurd hj (by omega)), Below.refl _ _⟩
    case round =>
      obtain ⟨k, hk, rfl, HT, hb⟩ := hrel
      by_cases hlt : k < l.length
      · obtain ⟨x, hx⟩ := some_of_lt hlt
        obtain ⟨y, hy⟩ := some_of_lt (l := m) (k := k) (by rw [← HL.out]; exact hlt)
        obtain ⟨b1, o1, rfl, _, hcx0, hcx1, hcx2⟩ := (h.below hb (Nat.le_refl _)).at_3 hx
        obtain ⟨b2, o2, rfl, _, hcy0, hcy1, hcy2⟩ := (g.below hb (Nat.le_refl _)).at_3 hy
        have HX := Lib.hid hx
        have HY := Lib.hid hy
        clear hx hy h g
        go_wp2
        go_still_tail 8, (by kernel_rfl)
        change wpList _ _ _ _ _ wr.drew
        go_wp2_with fail
        refine (laws_eqLine _ _ _ _ _ _ _).mono ?_; rintro e w1 ⟨rfl, hb1⟩
        by_cases hxy : x = y
        · have hd : decide ((x.1, x.2.1, x.2.2) = (y.1, y.2.1, y.2.2)) = true := by rw [hxy]; simp
          rw [hd]
          have HXY := Lib.hid hxy
          clear hxy hd
          go_wp2
          go_roundw
          case rel => exact ⟨k + 1, by omega, by go_num, Lib.hid (upto_succ HT.out (by rw [HX.out, HY.out, HXY.out])), by (repeat' (first | (with_reducible exact Below.refl _ _) | (with_reducible assumption) | (with_reducible refine below_drewN ?_ _) | (with_reducible refine Below.drew ?_) | (with_reducible refine below_alloc ?_ _) | (with_reducible refine Below.alloc ?_ ?_ _) | (with_reducible refine Below.setCell ?_ ?_ _) | (with_reducible refine below_go ?_ (by with_reducible assumption)) | (with_reducible refine below_then (by with_reducible assumption) ?_ ?_) | go_size))⟩
          case measure => simp [intOf]; omega
        · have hd : decide ((x.1, x.2.1, x.2.2) = (y.1, y.2.1, y.2.2)) = false := decide_eq_false hxy
          rw [hd]
          have HXY := Lib.hid hxy
          clear hxy hd
          go_wp2
          go_ret
          refine ⟨ret_bool ?_, by (repeat' (first | (with_reducible exact Below.refl _ _) | (with_reducible assumption) | (with_reducible refine below_drewN ?_ _) | (with_reducible refine Below.drew ?_) | (with_reducible refine below_alloc ?_ _) | (with_reducible refine Below.alloc ?_ ?_ _) | (with_reducible refine Below.setCell ?_ ?_ _) | (with_reducible refine below_go ?_ (by with_reducible assumption)) | (with_reducible refine below_then (by with_reducible assumption) ?_ ?_) | go_size))⟩
          have hd : l ≠ m := fun e => by
            have h1 := HX.out
            rw [e, HY.out] at h1
            injection h1 with h1
            exact HXY.out h1.symm
          simp [hd]
      · go_wp2
        go_ret
        refine ⟨ret_bool ?_, hb⟩
        have hd : l = m := eq_of_upto (fun j hj => HT.out j hj) (by omega) (by have := HL.out; omega)
        simp [hd]
  · have hne : ((l.length : Int) != (m.length : Int)) = true := by simp; omega
    have hd : l ≠ m := fun e => hl (by rw [e])
    have HD := Lib.hid hd
    clear hd hl
    go_in
    go_wp2
    go_ret
    refine ⟨ret_bool ?_, by (repeat' (first | (with_reducible exact Below.refl _ _) | (with_reducible assumption) | (with_reducible refine below_drewN ?_ _) | (with_reducible refine Below.drew ?_) | (with_reducible refine below_alloc ?_ _) | (with_reducible refine Below.alloc ?_ ?_ _) | (with_reducible refine Below.setCell ?_ ?_ _) | (with_reducible refine below_go ?_ (by with_reducible assumption)) | (with_reducible refine below_then (by with_reducible assumption) ?_ ?_) | go_size))⟩
    simp [HD.out]
/-- What is left of 'left' behind z. -/
def szV (z left : Int) : Int := if z ≤ left then left - z else -1
theorem szV_t {z left : Int} (h : z ≤ left) : szV z left = left - z := by rw [szV, if_pos h]
theorem szV_f {z left : Int} (h : ¬ z ≤ left) : szV z left = -1 := by rw [szV, if_neg h]
/-- The room that lines take. -/
def szL : List Line3 → Int
  | [] => 0
  | x :: l => (x.1.size : Int) + 1 + szL l
theorem szL_len : ∀ l : List Line3, (l.length : Int) ≤ szL l
  | [] => by simp [szL]
  | x :: l => by have := szL_len l; rw [szL, List.length_cons]; omega
theorem szL_nonneg (l : List Line3) : 0 ≤ szL l := Int.le_trans (by omega) (szL_len l)
/-- What is left of 'left' behind the lengths of the first k texts; lines counted ahead. -/
def szUp (l : List Line3) : Nat → Int
  | 0 => 0
  | k + 1 => szUp l k + ((l.getD k (ByteArray.empty, 0, 0)).1.size : Int)
theorem szUp_succ {l : List Line3} {k : Nat} {x : Line3} (h : l[k]? = some x) : szUp l (k + 1) = szUp l k + (x.1.size : Int) := by rw [szUp, List.getD, h]; rfl
theorem szUp_cons (x : Line3) (l : List Line3) : ∀ k, szUp (x :: l) (k + 1) = (x.1.size : Int) + szUp l k
  | 0 => by simp [szUp]
  | k + 1 => by
    rw [szUp, szUp_cons x l k, szUp]
    simp only [List.getD_cons_succ]
    omega
theorem szL_up : ∀ l : List Line3, szL l = (l.length : Int) + szUp l l.length
  | [] => by simp [szL, szUp]
  | x :: l => by rw [szL, szL_up l, List.length_cons, szUp_cons]; omega
theorem szUp_mono (l : List Line3) : ∀ {j k : Nat}, j ≤ k → szUp l j ≤ szUp l k := fun {j k} h => by
  induction k with
  | zero => obtain rfl : j = 0 := by omega
            exact Int.le_refl _
  | succ k ih =>
    by_cases e : j = k + 1
    · subst e; exact Int.le_refl _
    · have := ih (by omega)
      rw [szUp]; omega
theorem szUp_nonneg (l : List Line3) (k : Nat) : 0 ≤ szUp l k := szUp_mono l (j := 0) (Nat.zero_le k)
end Go.Proofs.YtoheahbkopbmhaaDoor
