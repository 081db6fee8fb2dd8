/- The laws' own conversions of []bool: comparing, marking. -/
import Derived.Test.YtmdmnjjlpefigaaBase
import Derived.Test.YtmdmnjjlpefigaaElems
import Derived.Test.YtmdmnjjlpefigaaP21
import Derived.Test.YtmdmnjjlpefigaaRows
import Derived.StillTailTactics
namespace Go.Proofs.Ytmdmnjjlpefigaa
set_option linter.unusedVariables false
set_option linter.unusedSimpArgs false
open Go.ChangeShapes Go.WideShapes Go.ChangeAt Go.RowKit Go.Deep
def markB (k0 : Int) (j : Nat) : Bool := (k0 + (j : Int)) % 3 == 0
set_option maxRecDepth 100000 in
theorem laws_eqBoolS (A C : Option Addr) (n n' c d : Nat) (l m : List Bool) (w : World) (hn : l.length = n) (hn' : m.length = n') (h : Recs boolE 1 w A l) (g : Recs boolE 1 w C m) (hz : n ≤ 16777216) (hz' : n' ≤ 16777216) :
    Calls Try.prog 36 #[.slice A n c, .slice C n' d] w fun e w' => e = .returned (.bool (decide (l = m))) ∧ Below w.heap.size w w' := by
  subst hn hn'
  by_cases hl : l.length = m.length
  · have HL := Lib.hid hl
    rw [← hl]
    clear hl
    go_in
    go_wp2
    go_loopw [5] (fun i wr => ∃ k : Nat, k ≤ l.length ∧ i = .int .i64 k ∧ Hid (∀ j, j < k → l[j]? = m[j]?) ∧ Below w.heap.size w wr) (fun i _ => l.length - (intOf i).toNat)
    case atStart => exact ⟨0, Nat.zero_le _, rfl, Lib.hid (fun j hj => absurd hj (by omega)), Below.refl _ _⟩
    case round =>
      obtain ⟨k, hk, rfl, HT, hb⟩ := hrel
      by_cases hlt : k < l.length
      · obtain ⟨b1, o1, x, rfl, _, hx, hcx⟩ := (h.below hb (Nat.le_refl _)).at_bool hlt
        obtain ⟨b2, o2, y, rfl, _, hy, hcy⟩ := (g.below hb (Nat.le_refl _)).at_bool (by rw [← HL.out]; exact hlt)
        have HX := Lib.hid hx
        have HY := Lib.hid hy
        clear hx hy h g
        by_cases hxy : x = y
        · subst hxy
          have hne : (x != x) = false := by rcases x <;> rfl
          have he := Lib.hid (show l[k]? = m[k]? by rw [HX.out, HY.out])
          rcases x
          all_goals
            go_wp2
            go_quiet (fail)
            go_wp2
            go_roundw
            case rel => exact ⟨k + 1, by omega, by go_num, Lib.hid (upto_succ HT.out he.out), by (repeat' (first | (with_reducible exact Below.refl _ _) | (with_reducible assumption) | (with_reducible refine below_drewN ?_ _) | (with_reducible refine Below.drew ?_) | (with_reducible refine below_alloc ?_ _) | (with_reducible refine Below.alloc ?_ ?_ _) | (with_reducible refine Below.setCell ?_ ?_ _) | (with_reducible refine below_go ?_ (by with_reducible assumption)) | (with_reducible refine below_then (by with_reducible assumption) ?_ ?_) | go_size))⟩
            case measure => simp [intOf]; omega
        · have hd : l ≠ m := fun e => by
            have h1 := HX.out
            rw [e, HY.out] at h1
            injection h1 with h1
            exact hxy h1.symm
          have HD := Lib.hid (show decide (l = m) = false from decide_eq_false hd)
          clear hd
          rcases x <;> rcases y <;> first | exact absurd rfl hxy | skip
          all_goals
            clear hxy
            go_wp2
            go_quiet (fail)
            go_wp2
            go_ret
            exact ⟨ret_bool HD.out.symm, by (repeat' (first | (with_reducible exact Below.refl _ _) | (with_reducible assumption) | (with_reducible refine below_drewN ?_ _) | (with_reducible refine Below.drew ?_) | (with_reducible refine below_alloc ?_ _) | (with_reducible refine Below.alloc ?_ ?_ _) | (with_reducible refine Below.setCell ?_ ?_ _) | (with_reducible refine below_go ?_ (by with_reducible assumption)) | (with_reducible refine below_then (by with_reducible assumption) ?_ ?_) | go_size))⟩
      · go_wp2
        go_ret
        refine ⟨ret_bool ?_, hb⟩
        have hd : l = m := eq_of_upto (fun j hj => HT.out j hj) (by omega) (by have := HL.out; omega)
        simp [hd]
  · have hne : ((l.length : Int) != (m.length : Int)) = true := by simp; omega
    have hd : l ≠ m := fun e => hl (by rw [e])
    have HD := Lib.hid hd
    clear hd hl
    go_in
    go_wp2
    go_ret
    refine ⟨ret_bool ?_, by (repeat' (first | (with_reducible exact Below.refl _ _) | (with_reducible assumption) | (with_reducible refine below_drewN ?_ _) | (with_reducible refine Below.drew ?_) | (with_reducible refine below_alloc ?_ _) | (with_reducible refine Below.alloc ?_ ?_ _) | (with_reducible refine Below.setCell ?_ ?_ _) | (with_reducible refine below_go ?_ (by with_reducible assumption)) | (with_reducible refine below_then (by with_reducible assumption) ?_ ?_) | go_size))⟩
    simp [HD.out]
set_option maxRecDepth 100000 in
theorem laws_markBoolS (A : Option Addr) (n c base : Nat) (l : List Bool) (k0 : Int) (w : World) (h : Owned boolE 1 4 w base A n c l) (hbase : base ≤ w.heap.size) (hz : n ≤ 16777216) (hk0 : 0 ≤ k0 ∧ k0 ≤ 1099511627776) :
    Calls Try.prog 38 #[.slice A n c, .int .i64 k0] w fun e w' => e = .returned (.int .i64 (k0 + (n : Int))) ∧ Owned boolE 1 4 w' base A n c ((List.range n).map (markB k0)) ∧ w.grownBy w' (Value.slice A n c).ownBlock ∧ Below base w w' := by
  go_in
  go_wp2
  go_loopw [5, 1] (fun p q wr => ∃ (i : Nat) (m : List Bool), i ≤ n ∧ p = .int .i64 i ∧ q = .int .i64 (k0 + (i : Int)) ∧ Hid (∀ j, j < i → m[j]? = some (markB k0 j)) ∧ Owned boolE 1 4 wr base A n c m ∧ w.grownBy wr (Value.slice A n c).ownBlock) (fun p _ _ => n - (intOf p).toNat)
  case atStart => exact ⟨0, l, Nat.zero_le _, rfl, by simp, Lib.hid (fun j hj => absurd hj (by omega)), h, ⟨rfl, rfl, rfl, Nat.le_refl _, fun _ _ _ => rfl⟩⟩
  case round =>
    obtain ⟨i, m, hi, rfl, rfl, HM, ho, hg⟩ := hrel
    by_cases hlt : i < n
    · obtain ⟨y, hy⟩ := some_of_lt (l := m) (k := i) (by rw [ho.len]; exact hlt)
      obtain ⟨g, rfl, hgb, hgs, hcell, hfz⟩ := ho.at_ (by omega)
      have old0 := hcell i y 0 _ hy rfl
      have fz0 := hfz (i * 1 + 0)
      simp only [Nat.mul_one, Nat.add_zero] at old0 fz0
      have HY := Lib.hid hy
      have HO := Lib.hid ho
      clear hcell hfz h hy ho
      have hmb : ((k0 + (i : Int)) % 3 == 0) = markB k0 i := rfl
      go_wp2
      go_roundw
      case rel =>
        refine ⟨i + 1, m.set i (markB k0 i), by omega, by go_num, by go_num, Lib.hid (upto_mark HM.out (by rw [HO.out.len]; exact hlt)), ?_, ?_⟩
        · have p0 := HO.out.put (j := 0) (x := markB k0 i) (u := .bool (markB k0 i)) HY.out (by decide) rfl
          simp only [Nat.mul_one, Nat.add_zero] at p0
          exact p0.1
        · have p0 := HO.out.put (j := 0) (x := markB k0 i) (u := .bool (markB k0 i)) HY.out (by decide) rfl
          simp only [Nat.mul_one, Nat.add_zero] at p0
          exact grownBy_trans hg p0.2
      case measure => simp [intOf]; omega
    · go_wp2
      go_ret
      obtain rfl : i = n := by omega
      have e1 : m = (List.range i).map (markB k0) := marks_eq HM.out ho.len
      rw [e1] at ho
      exact ⟨rfl, ho, hg, (Below.refl _ _).grown hg hbase fun k hk => (h.blk hk).1⟩
set_option maxRecDepth 100000 in
theorem laws_heldBoolS (A : Option Addr) (n c : Nat) (k0 : Int) (w : World) (h : Recs boolE 1 w A ((List.range n).map (markB k0))) (hz : n ≤ 16777216) (hk0 : 0 ≤ k0 ∧ k0 ≤ 1099511627776) :
    Calls Try.prog 39 #[.slice A n c, .int .i64 k0] w fun e w' => e = .returned (.int .i64 (k0 + (n : Int))) ∧ w = w' := by
  go_in
  go_wp2
  go_loop [5, 1] (fun p q => ∃ i : Nat, i ≤ n ∧ p = .int .i64 i ∧ q = .int .i64 (k0 + (i : Int))) (fun p _ => n - (intOf p).toNat)
  case atStart => exact ⟨0, Nat.zero_le _, rfl, by simp⟩
  case round =>
    obtain ⟨i, hi, rfl, rfl⟩ := hrel
    by_cases hlt : i < n
    · have hx : ((List.range n).map (markB k0))[i]? = some (markB k0 i) := by simp [hlt]
      obtain ⟨b1, o1, x', rfl, hbb, hx', hc0⟩ := h.at_bool (k := i) (by simp; exact hlt)
      rw [hx] at hx'
      injection hx' with hx'
      subst hx'
      have hmb : ((k0 + (i : Int)) % 3 == 0) = markB k0 i := rfl
      clear hx h
      rcases hmv : markB k0 i
      all_goals
        rw [hmv] at hc0 hmb
        go_wp2
        go_round
        case rel => exact ⟨i + 1, by omega, by go_num, by go_num⟩
        case measure => simp [intOf]; omega
    · go_wp2
      go_ret
      obtain rfl : i = n := by omega
      exact ⟨rfl, rfl⟩
end Go.Proofs.Ytmdmnjjlpefigaa
