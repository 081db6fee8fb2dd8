/- The laws' own conversions of []impl.Line and of impl.Proof: copying, comparing, counting. -/
import Derived.Test.YtmlhdchglhkhiaaDoorCstrs
import Derived.StillTailTactics
namespace Go.Proofs.YtmlhdchglhkhiaaDoor
set_option linter.unusedVariables false
set_option linter.unusedSimpArgs false
open Go.ChangeShapes Go.WideShapes Go.ChangeAt Go.RowKit Go.Deep
abbrev Line3 := ByteArray × Int × Int
abbrev lineE : ByteArray × Int × Int → List Value := fun s => [.string s.1, .int .i64 s.2.1, .int .i64 s.2.2]
theorem lineE_len (s : Line3) : (lineE s).length = 3 := rfl
theorem Tryd.elLine : ElemOk Tryd.prog 45 78 (.agg #[.string ByteArray.empty, .int .i64 0, .int .i64 0]) 3 32 := ⟨Tryd.underlying45, by kernel_rfl, rfl, by decide⟩
theorem laws_toLine (a0 : ByteArray) (a1 a2 : Int) (w : World) :
    Calls Tryd.prog 71 #[.agg #[.string a0, .int .i64 a1, .int .i64 a2]] w fun e w' => e = .returned (.agg #[.string a0, .int .i64 a1, .int .i64 a2]) ∧ Below w.heap.size w w' := by
  go_in
  go_wp2
  go_returns
  exact ⟨rfl, by (repeat' (first | (with_reducible exact Below.refl _ _) | (with_reducible assumption) | (with_reducible refine below_drewN ?_ _) | (with_reducible refine Below.drew ?_) | (with_reducible refine below_alloc ?_ _) | (with_reducible refine Below.alloc ?_ ?_ _) | (with_reducible refine Below.setCell ?_ ?_ _) | (with_reducible refine below_go ?_ (by with_reducible assumption)) | (with_reducible refine below_then (by with_reducible assumption) ?_ ?_) | go_size))⟩
set_option maxRecDepth 100000 in
theorem laws_toLineS (A : Option Addr) (n c : Nat) (l : List Line3) (w : World) (hn : l.length = n) (h : Recs lineE 3 w A l) (hz : n ≤ 1048576) :
    Calls Tryd.prog 54 #[.slice A n c] w fun e w' => ∃ g, e = .returned (.slice (some ⟨g, 0, none⟩) n n) ∧ Owned lineE 3 78 w' w.heap.size (some ⟨g, 0, none⟩) n n l ∧ Below w.heap.size w w' := by
  subst hn
  have hmk := run_make_rec (e := lineE) Tryd.elLine (ByteArray.empty, 0, 0) rfl l.length (by omega) (by decide)
  go_in
  go_wp2
  clear hmk
  go_loopw [4] (fun i wr => ∃ (k : Nat) (m : List Line3), k ≤ l.length ∧ i = .int .i64 k ∧ Hid (∀ j, j < k → m[j]? = l[j]?) ∧ Owned lineE 3 78 wr w.heap.size (some ⟨w.heap.size, 0, none⟩) l.length l.length m ∧ Below w.heap.size w wr) (fun i _ => l.length - (intOf i).toNat)
  case atStart => exact ⟨0, _, Nat.zero_le _, rfl, Lib.hid (fun j hj => absurd hj (by omega)), Owned.made (e := lineE) (s := 3) (fun _ => rfl) w 78 (ByteArray.empty, 0, 0) l.length (by omega) (Nat.le_refl _), by (repeat' (first | (with_reducible exact Below.refl _ _) | (with_reducible assumption) | (with_reducible refine below_drewN ?_ _) | (with_reducible refine Below.drew ?_) | (with_reducible refine below_alloc ?_ _) | (with_reducible refine Below.alloc ?_ ?_ _) | (with_reducible refine Below.setCell ?_ ?_ _) | (with_reducible refine below_go ?_ (by with_reducible assumption)) | (with_reducible refine below_then (by with_reducible assumption) ?_ ?_) | go_size))⟩
  case round =>
    obtain ⟨k, m, hk, rfl, HM, ho, hb⟩ := hrel
    by_cases hlt : k < l.length
    · obtain ⟨x, hx⟩ := some_of_lt hlt
      obtain ⟨y, hy⟩ := some_of_lt (l := m) (k := k) (by rw [ho.len]; exact hlt)
      obtain ⟨b1, o1, rfl, hbb, hc0, hc1, hc2⟩ := (h.below hb (Nat.le_refl _)).at_3 hx
      have HX := Lib.hid hx
      have HY := Lib.hid hy
      have HO := Lib.hid ho
      clear hx hy ho h
      go_wp2_with fail
      refine (laws_toLine _ _ _ _).mono ?_; rintro e w1 ⟨rfl, hb1⟩
      have HO1 := Lib.hid (HO.out.up hb1)
      obtain ⟨g', eg, _, _, hcell, hfz⟩ := HO1.out.at_ (by omega)
      injection eg with eg
      injection eg with eg
      subst eg
      have old0 := hcell k y 0 _ HY.out rfl
      have fz0 := hfz (k * 3 + 0)
      have old1 := hcell k y 1 _ HY.out rfl
      have fz1 := hfz (k * 3 + 1)
      have old2 := hcell k y 2 _ HY.out rfl
      have fz2 := hfz (k * 3 + 2)
      simp only [Nat.add_zero] at old0 fz0
      clear hcell hfz
      go_wp2
      go_roundw
      case rel =>
        refine ⟨k + 1, m.set k x, by omega, by go_num, Lib.hid (upto_set HM.out HX.out (by rw [HO1.out.len]; exact hlt)), ?_, by (repeat' (first | (with_reducible exact Below.refl _ _) | (with_reducible assumption) | (with_reducible refine below_drewN ?_ _) | (with_reducible refine Below.drew ?_) | (with_reducible refine below_alloc ?_ _) | (with_reducible refine Below.alloc ?_ ?_ _) | (with_reducible refine Below.setCell ?_ ?_ _) | (with_reducible refine below_go ?_ (by with_reducible assumption)) | (with_reducible refine below_then (by with_reducible assumption) ?_ ?_) | go_size))⟩
        have p0 := (HO1.out.put (j := 0) (x := (x.1, y.2.1, y.2.2)) (u := .string x.1) HY.out (by decide) rfl).1
        have p1 := (p0.put (j := 1) (x := (x.1, x.2.1, y.2.2)) (u := .int .i64 x.2.1) (List.getElem?_set_self (by rw [HO1.out.len]; exact hlt)) (by decide) rfl).1
        have p2 := (p1.put (j := 2) (x := (x.1, x.2.1, x.2.2)) (u := .int .i64 x.2.2) (List.getElem?_set_self (by simp only [List.length_set]; rw [HO1.out.len]; exact hlt)) (by decide) rfl).1
        simp only [List.set_set] at p2
        exact p2
      case measure => simp [intOf]; omega
    · go_wp2
      go_ret
      have e1 : m = l := eq_of_upto (fun j hj => HM.out j hj) (by rw [ho.len]; omega) (by omega)
      subst e1
      exact ⟨_, rfl, ho, hb⟩
theorem laws_eqLine (a0 b0 : ByteArray) (a1 a2 b1 b2 : Int) (w : World) :
    Calls Tryd.prog 74 #[.agg #[.string a0, .int .i64 a1, .int .i64 a2], .agg #[.string b0, .int .i64 b1, .int .i64 b2]] w fun e w' => e = .returned (.bool (decide ((a0, a1, a2) = (b0, b1, b2)))) ∧ Below w.heap.size w w' := by
  have E : Hid (∀ p : Bool, p = decide (a0 = b0 ∧ a1 = b1 ∧ a2 = b2) → p = decide ((a0, a1, a2) = (b0, b1, b2))) := fun p h => by rw [h]; simp
  rcases hne : (a0.toList == b0.toList)
  · have hd := Lib.hid (show ¬ a0 = b0 from fun e => by rw [e] at hne; simp at hne)
    go_in
    go_wp2
    all_goals go_ret
    all_goals refine ⟨ret_bool (E.out _ ?_), by (repeat' (first | (with_reducible exact Below.refl _ _) | (with_reducible assumption) | (with_reducible refine below_drewN ?_ _) | (with_reducible refine Below.drew ?_) | (with_reducible refine below_alloc ?_ _) | (with_reducible refine Below.alloc ?_ ?_ _) | (with_reducible refine Below.setCell ?_ ?_ _) | (with_reducible refine below_go ?_ (by with_reducible assumption)) | (with_reducible refine below_then (by with_reducible assumption) ?_ ?_) | go_size))⟩
    all_goals simp [hd.out]
  · have hd := Lib.hid (bytes_same hne)
    go_in
    go_wp2
    all_goals go_ret
    all_goals refine ⟨ret_bool (E.out _ ?_), by (repeat' (first | (with_reducible exact Below.refl _ _) | (with_reducible assumption) | (with_reducible refine below_drewN ?_ _) | (with_reducible refine Below.drew ?_) | (with_reducible refine below_alloc ?_ _) | (with_reducible refine Below.alloc ?_ ?_ _) | (with_reducible refine Below.setCell ?_ ?_ _) | (with_reducible refine below_go ?_ (by with_reducible assumption)) | (with_reducible refine below_then (by with_reducible assumption) ?_ ?_) | go_size))⟩
    all_goals simp_all [hd.out]
set_option maxRecDepth 100000 in
theorem laws_eqLineS (A C : Option Addr) (n n' c d : Nat) (l m : List Line3) (w : World) (hn : l.length = n) (hn' : m.length = n') (h : Recs lineE 3 w A l) (g : Recs lineE 3 w C m) (hz : n ≤ 16777216) (hz' : n' ≤ 16777216) :
    Calls Tryd.prog 57 #[.slice A n c, .slice C n' d] w fun e w' => e = .returned (.bool (decide (l = m))) ∧ Below w.heap.size w w' := by
  subst hn hn'
  by_cases hl : l.length = m.length
  · have HL := Lib.hid hl
    rw [← hl]
    clear hl
    go_in
    go_wp2
    go_loopw [5] (fun i wr => ∃ k : Nat, k ≤ l.length ∧ i = .int .i64 k ∧ Hid (∀ j, j < k → l[j]? = m[j]?) ∧ Below w.heap.size w wr) (fun i _ => l.length - (intOf i).toNat)
    case atStart => exact ⟨0, Nat.zero_le _, rfl, Lib.hid (fun j hj => absurd hj (by omega)), Below.refl _ _⟩
    case round =>
      obtain ⟨k, hk, rfl, HT, hb⟩ := hrel
      by_cases hlt : k < l.length
      · obtain ⟨x, hx⟩ := some_of_lt hlt
        obtain ⟨y, hy⟩ := some_of_lt (l := m) (k := k) (by rw [← HL.out]; exact hlt)
        obtain ⟨b1, o1, rfl, _, hcx0, hcx1, hcx2⟩ := (h.below hb (Nat.le_refl _)).at_3 hx
        obtain ⟨b2, o2, rfl, _, hcy0, hcy1, hcy2⟩ := (g.below hb (Nat.le_refl _)).at_3 hy
        have HX := Lib.hid hx
        have HY := Lib.hid hy
        clear hx hy h g
        go_wp2
        go_still_tail 8, (by kernel_rfl)
        change wpList _ _ _ _ _ wr.drew
        go_wp2_with fail
        refine (laws_eqLine _ _ _ _ _ _ _).mono ?_; rintro e w1 ⟨rfl, hb1⟩
        by_cases hxy : x = y
        · have hd : decide ((x.1, x.2.1, x.2.2) = (y.1, y.2.1, y.2.2)) = true := by rw [hxy]; simp
          rw [hd]
          have HXY := Lib.hid hxy
          clear hxy hd
          go_wp2
          go_roundw
          case rel => exact ⟨k + 1, by omega, by go_num, Lib.hid (upto_succ HT.out (by rw [HX.out, HY.out, HXY.out])), by (repeat' (first | (with_reducible exact Below.refl _ _) | (with_reducible assumption) | (with_reducible refine below_drewN ?_ _) | (with_reducible refine Below.drew ?_) | (with_reducible refine below_alloc ?_ _) | (with_reducible refine Below.alloc ?_ ?_ _) | (with_reducible refine Below.setCell ?_ ?_ _) | (with_reducible refine below_go ?_ (by with_reducible assumption)) | (with_reducible refine below_then (by with_reducible assumption) ?_ ?_) | go_size))⟩
          case measure => simp [intOf]; omega
        · have hd : decide ((x.1, x.2.1, x.2.2) = (y.1, y.2.1, y.2.2)) = false := decide_eq_false hxy
          rw [hd]
          have HXY := Lib.hid hxy
          clear hxy hd
          go_wp2
          go_ret
          refine ⟨ret_bool ?_, by (repeat' (first | (with_reducible exact Below.refl _ _) | (with_reducible assumption) | (with_reducible refine below_drewN ?_ _) | (with_reducible refine Below.drew ?_) | (with_reducible refine below_alloc ?_ _) | (with_reducible refine Below.alloc ?_ ?_ _) | (with_reducible refine Below.setCell ?_ ?_ _) | (with_reducible refine below_go ?_ (by with_reducible assumption)) | (with_reducible refine below_then (by with_reducible assumption) ?_ ?_) | go_size))⟩
          have hd : l ≠ m := fun e => by
            have h1 := HX.out
            rw [e, HY.out] at h1
            injection h1 with h1
            exact HXY.out h1.symm
          simp [hd]
      · go_wp2
        go_ret
        refine ⟨ret_bool ?_, hb⟩
        have hd : l = m := eq_of_upto (fun j hj => HT.out j hj) (by omega) (by have := HL.out; omega)
        simp [hd]
  · have hne : ((l.length : Int) != (m.length : Int)) = true := by simp; omega
    have hd : l ≠ m := fun e => hl (by rw [e])
    have HD := Lib.hid hd
    clear hd hl
    go_in
    go_wp2
    go_ret
    refine ⟨ret_bool ?_, by (repeat' (first | (with_reducible exact Below.refl _ _) | (with_reducible assumption) | (with_reducible refine below_drewN ?_ _) | (with_reducible refine Below.drew ?_) | (with_reducible refine below_alloc ?_ _) | (with_reducible refine Below.alloc ?_ ?_ _) | (with_reducible refine Below.setCell ?_ ?_ _) | (with_reducible refine below_go ?_ (by with_reducible assumption)) | (with_reducible refine below_then (by with_reducible assumption) ?_ ?_) | go_size))⟩
    simp [HD.out]
/-- What is left of 'left' behind z. -/
def szV (z left : Int) : Int := if z ≤ left then left - z else -1
theorem szV_t {z left : Int} (h : z ≤ left) : szV z left = left - z := by rw [szV, if_pos h]
theorem szV_f {z left : Int} (h : ¬ z ≤ left) : szV z left = -1 := by rw [szV, if_neg h]
/-- The room that lines take. -/
def szL : List Line3 → Int
  | [] => 0
  | x :: l => (x.1.size : Int) + 1 + szL l
theorem szL_len : ∀ l : List Line3, (l.length : Int) ≤ szL l
  | [] => by simp [szL]
  | x :: l => by have := szL_len l; rw [szL, List.length_cons]; omega
theorem szL_nonneg (l : List Line3) : 0 ≤ szL l := Int.le_trans (by omega) (szL_len l)
/-- What is left of 'left' behind the lengths of the first k texts; lines counted ahead. -/
def szUp (l : List Line3) : Nat → Int
  | 0 => 0
  | k + 1 => szUp l k + ((l.getD k (ByteArray.empty, 0, 0)).1.size : Int)
theorem szUp_succ {l : List Line3} {k : Nat} {x : Line3} (h : l[k]? = some x) : szUp l (k + 1) = szUp l k + (x.1.size : Int) := by rw [szUp, List.getD, h]; rfl
theorem szUp_cons (x : Line3) (l : List Line3) : ∀ k, szUp (x :: l) (k + 1) = (x.1.size : Int) + szUp l k
  | 0 => by simp [szUp]
  | k + 1 => by
    rw [szUp, szUp_cons x l k, szUp]
    simp only [List.getD_cons_succ]
    omega
theorem szL_up : ∀ l : List Line3, szL l = (l.length : Int) + szUp l l.length
  | [] => by simp [szL, szUp]
  | x :: l => by rw [szL, szL_up l, List.length_cons, szUp_cons]; omega
theorem szUp_mono (l : List Line3) : ∀ {j k : Nat}, j ≤ k → szUp l j ≤ szUp l k := fun {j k} h => by
  induction k with
  | zero => obtain rfl : j = 0 := by omega
            exact Int.le_refl _
  | succ k ih =>
    by_cases e : j = k + 1
    · subst e; exact Int.le_refl _
    · have := ih (by omega)
      rw [szUp]; omega
theorem szUp_nonneg (l : List Line3) (k : Nat) : 0 ≤ szUp l k := szUp_mono l (j := 0) (Nat.zero_le k)
theorem laws_szLine (a0 : ByteArray) (a1 a2 left : Int) (w : World) (h : 0 ≤ left ∧ left ≤ 1048576) (hs : a0.size ≤ maxLen) :
    Calls Tryd.prog 69 #[.agg #[.string a0, .int .i64 a1, .int .i64 a2], .int .i64 left] w fun e w' => e = .returned (.int .i64 (szV a0.size left)) ∧ Below w.heap.size w w' := by
  unfold maxLen at hs
  by_cases hle : (a0.size : Int) ≤ left
  · have e := szV_t hle
    rw [e]
    clear e
    go_in
    go_wp2
    go_ret
    exact ⟨rfl, by (repeat' (first | (with_reducible exact Below.refl _ _) | (with_reducible assumption) | (with_reducible refine below_drewN ?_ _) | (with_reducible refine Below.drew ?_) | (with_reducible refine below_alloc ?_ _) | (with_reducible refine Below.alloc ?_ ?_ _) | (with_reducible refine Below.setCell ?_ ?_ _) | (with_reducible refine below_go ?_ (by with_reducible assumption)) | (with_reducible refine below_then (by with_reducible assumption) ?_ ?_) | go_size))⟩
  · have e := szV_f hle
    rw [e]
    clear e
    go_in
    go_wp2
    go_ret
    exact ⟨rfl, by (repeat' (first | (with_reducible exact Below.refl _ _) | (with_reducible assumption) | (with_reducible refine below_drewN ?_ _) | (with_reducible refine Below.drew ?_) | (with_reducible refine below_alloc ?_ _) | (with_reducible refine Below.alloc ?_ ?_ _) | (with_reducible refine Below.setCell ?_ ?_ _) | (with_reducible refine below_go ?_ (by with_reducible assumption)) | (with_reducible refine below_then (by with_reducible assumption) ?_ ?_) | go_size))⟩
set_option maxRecDepth 100000 in
theorem laws_szLineS (A : Option Addr) (n c : Nat) (l : List Line3) (left : Int) (w : World) (hn : l.length = n) (h : Recs lineE 3 w A l) (h1 : left ≤ 1048576) (h0 : 0 ≤ left) (hm : l.length ≤ 9223372036854775807) (hs : ∀ x ∈ l, x.1.size ≤ maxLen) :
    Calls Tryd.prog 50 #[.slice A n c, .int .i64 left] w fun e w' => e = .returned (.int .i64 (szV (szL l) left)) ∧ Below w.heap.size w w' := by
  subst hn
  have HS := Lib.hid hs
  have HU := Lib.hid (szL_up l)
  clear hs
  by_cases hl : (l.length : Int) ≤ left
  · go_in
    go_wp2
    go_loopw [5, 1] (fun i v wr => ∃ k : Nat, k ≤ l.length ∧ i = .int .i64 k ∧ v = .int .i64 (left - (l.length : Int) - szUp l k) ∧ szUp l k ≤ left - (l.length : Int) ∧ Below w.heap.size w wr) (fun i _ _ => l.length - (intOf i).toNat)
    case atStart => exact ⟨0, Nat.zero_le _, rfl, by simp [szUp], by simp [szUp]; omega, Below.refl _ _⟩
    case round =>
      obtain ⟨k, hk, rfl, rfl, hle, hb⟩ := hrel
      have h00 := szUp_nonneg l k
      by_cases hlt : k < l.length
      · obtain ⟨x, hx⟩ := some_of_lt hlt
        obtain ⟨b1, o1, rfl, _, hc0, hc1, hc2⟩ := (h.below hb (Nat.le_refl _)).at_3 hx
        have hxs := HS.out x (List.mem_of_getElem? hx)
        have ES := Lib.hid (szUp_succ hx)
        have EM := Lib.hid (szUp_mono l (j := k + 1) (k := l.length) (by omega))
        clear hx h
        obtain ⟨u, hu⟩ : ∃ u, u = szUp l k := ⟨_, rfl⟩
        rw [← hu] at ES h00 hle ⊢
        clear hu
        by_cases hf : (x.1.size : Int) ≤ left - (l.length : Int) - u
        · go_wp2_with (first | (go_at_call 69; refine (laws_szLine _ _ _ _ _ (by omega) hxs).mono ?_; rw [szV_t hf]; rintro e w1 ⟨rfl, hb1⟩))
          go_roundw
          case rel => exact ⟨k + 1, by omega, by go_num, by rw [ES.out]; go_num, by rw [ES.out]; omega, below_go hb hb1⟩
          case measure => simp [intOf]; omega
        · go_wp2_with (first | (go_at_call 69; refine (laws_szLine _ _ _ _ _ (by omega) hxs).mono ?_; rw [szV_f hf]; rintro e w1 ⟨rfl, hb1⟩))
          go_ret
          refine ⟨ret_int ?_, below_go hb hb1⟩
          rw [szV_f]
          have := HU.out; have := ES.out; have := EM.out
          omega
      · obtain rfl : k = l.length := by omega
        have e1 := HU.out
        obtain ⟨u, hu⟩ : ∃ u, u = szUp l l.length := ⟨_, rfl⟩
        rw [← hu] at e1 h00 hle ⊢
        have E1 := Lib.hid e1
        clear e1 hu
        go_wp2
        go_ret
        refine ⟨ret_int ?_, hb⟩
        rw [szV_t (by rw [E1.out]; omega), E1.out]; omega
  · have hlL := szL_len l
    have E0 := Lib.hid (show ¬ szL l ≤ left by omega)
    go_in
    go_wp2
    go_ret
    exact ⟨ret_int (szV_f (by have := E0.out; omega)).symm, by (repeat' (first | (with_reducible exact Below.refl _ _) | (with_reducible assumption) | (with_reducible refine below_drewN ?_ _) | (with_reducible refine Below.drew ?_) | (with_reducible refine below_alloc ?_ _) | (with_reducible refine Below.alloc ?_ ?_ _) | (with_reducible refine Below.setCell ?_ ?_ _) | (with_reducible refine below_go ?_ (by with_reducible assumption)) | (with_reducible refine below_then (by with_reducible assumption) ?_ ?_) | go_size))⟩
end Go.Proofs.YtmlhdchglhkhiaaDoor
