/- The laws' own conversions of []string: copying, comparing, counting, marking. -/
import Derived.Test.YtnfjneogmddfdaaBase
import Derived.Test.YtnfjneogmddfdaaElems
import Derived.Test.YtnfjneogmddfdaaP21
import Derived.Test.YtnfjneogmddfdaaRows
import Derived.StillTailTactics
namespace Go.Proofs.Ytnfjneogmddfdaa
set_option linter.unusedVariables false
set_option linter.unusedSimpArgs false
open Go.ChangeShapes Go.WideShapes Go.ChangeAt Go.RowKit Go.Deep
theorem bytes_same {a b : ByteArray} (h : (a.toList == b.toList) = true) : a = b := by
  have h1 : a.toList = b.toList := by simpa using h
  rw [ByteArray.toList_eq, ByteArray.toList_eq] at h1
  cases a; cases b
  congr 1
  exact Array.ext' h1
set_option maxRecDepth 100000 in
theorem laws_toStringS (A : Option Addr) (n c : Nat) (l : List ByteArray) (w : World) (hn : l.length = n) (h : Recs strE 1 w A l) (hz : n ≤ 1048576) :
    Calls Try.prog 16 #[.slice A n c] w fun e w' => ∃ g, e = .returned (.slice (some ⟨g, 0, none⟩) n n) ∧ Owned strE 1 9 w' w.heap.size (some ⟨g, 0, none⟩) n n l ∧ Below w.heap.size w w' := by
  subst hn
  have hmk := run_make_rec (e := strE) Try.elStr ByteArray.empty rfl l.length (by omega) (by decide)
  go_in
  go_wp2
  clear hmk
  go_loopw [4] (fun i wr => ∃ (k : Nat) (m : List ByteArray), k ≤ l.length ∧ i = .int .i64 k ∧ Hid (∀ j, j < k → m[j]? = l[j]?) ∧ Owned strE 1 9 wr w.heap.size (some ⟨w.heap.size, 0, none⟩) l.length l.length m ∧ Below w.heap.size w wr) (fun i _ => l.length - (intOf i).toNat)
  case atStart => exact ⟨0, _, Nat.zero_le _, rfl, Lib.hid (fun j hj => absurd hj (by omega)), (by have h0 := Owned.made (e := strE) (s := 1) (fun _ => rfl) w 9 ByteArray.empty l.length (by omega) (Nat.le_refl _); rw [Nat.mul_one] at h0; exact h0), by (repeat' (first | (with_reducible exact Below.refl _ _) | (with_reducible assumption) | (with_reducible refine below_drewN ?_ _) | (with_reducible refine Below.drew ?_) | (with_reducible refine below_alloc ?_ _) | (with_reducible refine Below.alloc ?_ ?_ _) | (with_reducible refine Below.setCell ?_ ?_ _) | (with_reducible refine below_go ?_ (by with_reducible assumption)) | (with_reducible refine below_then (by with_reducible assumption) ?_ ?_) | go_size))⟩
  case round =>
    obtain ⟨k, m, hk, rfl, HM, ho, hb⟩ := hrel
    by_cases hlt : k < l.length
    · obtain ⟨x, hx⟩ := some_of_lt hlt
      obtain ⟨y, hy⟩ := some_of_lt (l := m) (k := k) (by rw [ho.len]; exact hlt)
      obtain ⟨b1, o1, x', rfl, hbb, hx', hc0⟩ := (h.below hb (Nat.le_refl _)).at_str hlt
      rw [hx] at hx'
      injection hx' with hx'
      subst hx'
      have HX := Lib.hid hx
      have HY := Lib.hid hy
      have HO := Lib.hid ho
      clear hx hy ho h
      have HO1 := HO
      obtain ⟨g', eg, _, _, hcell, hfz⟩ := HO1.out.at_ (by omega)
      injection eg with eg
      injection eg with eg
      subst eg
      have old0 := hcell k y 0 _ HY.out rfl
      have fz0 := hfz (k * 1 + 0)
      simp only [Nat.mul_one, Nat.add_zero] at old0 fz0
      clear hcell hfz
      go_wp2
      go_roundw
      case rel =>
        refine ⟨k + 1, m.set k x, by omega, by go_num, Lib.hid (upto_set HM.out HX.out (by rw [HO1.out.len]; exact hlt)), ?_, by (repeat' (first | (with_reducible exact Below.refl _ _) | (with_reducible assumption) | (with_reducible refine below_drewN ?_ _) | (with_reducible refine Below.drew ?_) | (with_reducible refine below_alloc ?_ _) | (with_reducible refine Below.alloc ?_ ?_ _) | (with_reducible refine Below.setCell ?_ ?_ _) | (with_reducible refine below_go ?_ (by with_reducible assumption)) | (with_reducible refine below_then (by with_reducible assumption) ?_ ?_) | go_size))⟩
        have p0 := (HO1.out.put (j := 0) (x := x) (u := .string x) HY.out (by decide) rfl).1
        simp only [Nat.mul_one, Nat.add_zero] at p0
        exact p0
      case measure => simp [intOf]; omega
    · go_wp2
      go_ret
      have e1 : m = l := eq_of_upto (fun j hj => HM.out j hj) (by rw [ho.len]; omega) (by omega)
      subst e1
      exact ⟨_, rfl, ho, hb⟩
set_option maxRecDepth 100000 in
theorem laws_eqStringS (A C : Option Addr) (n n' c d : Nat) (l m : List ByteArray) (w : World) (hn : l.length = n) (hn' : m.length = n') (h : Recs strE 1 w A l) (g : Recs strE 1 w C m) (hz : n ≤ 16777216) (hz' : n' ≤ 16777216) :
    Calls Try.prog 19 #[.slice A n c, .slice C n' d] w fun e w' => e = .returned (.bool (decide (l = m))) ∧ Below w.heap.size w w' := by
  subst hn hn'
  by_cases hl : l.length = m.length
  · have HL := Lib.hid hl
    rw [← hl]
    clear hl
    go_in
    go_wp2
    go_loopw [5] (fun i wr => ∃ k : Nat, k ≤ l.length ∧ i = .int .i64 k ∧ Hid (∀ j, j < k → l[j]? = m[j]?) ∧ Below w.heap.size w wr) (fun i _ => l.length - (intOf i).toNat)
    case atStart => exact ⟨0, Nat.zero_le _, rfl, Lib.hid (fun j hj => absurd hj (by omega)), Below.refl _ _⟩
    case round =>
      obtain ⟨k, hk, rfl, HT, hb⟩ := hrel
      by_cases hlt : k < l.length
      · obtain ⟨b1, o1, x, rfl, _, hx, hcx⟩ := (h.below hb (Nat.le_refl _)).at_str hlt
        obtain ⟨b2, o2, y, rfl, _, hy, hcy⟩ := (g.below hb (Nat.le_refl _)).at_str (by rw [← HL.out]; exact hlt)
        have HX := Lib.hid hx
        have HY := Lib.hid hy
        clear hx hy h g
        rcases hne : (x.toList == y.toList)
        · have he := Lib.hid hne
          go_wp2
          go_quiet (fail)
          go_wp2
          go_ret
          refine ⟨ret_bool ?_, by (repeat' (first | (with_reducible exact Below.refl _ _) | (with_reducible assumption) | (with_reducible refine below_drewN ?_ _) | (with_reducible refine Below.drew ?_) | (with_reducible refine below_alloc ?_ _) | (with_reducible refine Below.alloc ?_ ?_ _) | (with_reducible refine Below.setCell ?_ ?_ _) | (with_reducible refine below_go ?_ (by with_reducible assumption)) | (with_reducible refine below_then (by with_reducible assumption) ?_ ?_) | go_size))⟩
          have hd : l ≠ m := fun e => by
            have h1 := HX.out
            rw [e, HY.out] at h1
            injection h1 with h1
            have h2 := he.out
            rw [h1] at h2
            simp at h2
          simp [hd]
        · have he := Lib.hid hne
          go_wp2
          go_quiet (fail)
          go_wp2
          go_roundw
          case rel => exact ⟨k + 1, by omega, by go_num, Lib.hid (upto_succ HT.out (by rw [HX.out, HY.out, bytes_same he.out])), by (repeat' (first | (with_reducible exact Below.refl _ _) | (with_reducible assumption) | (with_reducible refine below_drewN ?_ _) | (with_reducible refine Below.drew ?_) | (with_reducible refine below_alloc ?_ _) | (with_reducible refine Below.alloc ?_ ?_ _) | (with_reducible refine Below.setCell ?_ ?_ _) | (with_reducible refine below_go ?_ (by with_reducible assumption)) | (with_reducible refine below_then (by with_reducible assumption) ?_ ?_) | go_size))⟩
          case measure => simp [intOf]; omega
      · go_wp2
        go_ret
        refine ⟨ret_bool ?_, hb⟩
        have hd : l = m := eq_of_upto (fun j hj => HT.out j hj) (by omega) (by have := HL.out; omega)
        simp [hd]
  · have hne : ((l.length : Int) != (m.length : Int)) = true := by simp; omega
    have hd : l ≠ m := fun e => hl (by rw [e])
    have HD := Lib.hid hd
    clear hd hl
    go_in
    go_wp2
    go_ret
    refine ⟨ret_bool ?_, by (repeat' (first | (with_reducible exact Below.refl _ _) | (with_reducible assumption) | (with_reducible refine below_drewN ?_ _) | (with_reducible refine Below.drew ?_) | (with_reducible refine below_alloc ?_ _) | (with_reducible refine Below.alloc ?_ ?_ _) | (with_reducible refine Below.setCell ?_ ?_ _) | (with_reducible refine below_go ?_ (by with_reducible assumption)) | (with_reducible refine below_then (by with_reducible assumption) ?_ ?_) | go_size))⟩
    simp [HD.out]
/-- The room that a list of texts takes. -/
def szS (l : List ByteArray) : Int := (l.map fun s => (s.size : Int)).sum + l.length
theorem szS_nil : szS [] = 0 := rfl
theorem szS_cons (s : ByteArray) (l : List ByteArray) : szS (s :: l) = (s.size : Int) + szS l + 1 := by simp only [szS, List.map_cons, List.sum_cons, List.length_cons]; omega
theorem szS_len : ∀ (l : List ByteArray), (l.length : Int) ≤ szS l
  | [] => by simp [szS]
  | s :: l => by have := szS_len l; rw [szS_cons, List.length_cons]; omega
theorem szS_each : ∀ (l : List ByteArray) (s : ByteArray), s ∈ l → (s.size : Int) ≤ szS l
  | x :: l, s, h => by
    rw [szS_cons]
    have h0 := szS_len l
    rcases List.mem_cons.1 h with rfl | h
    · omega
    · have := szS_each l s h
      omega
set_option maxRecDepth 100000 in
theorem laws_szStringS (A : Option Addr) (n c : Nat) (l : List ByteArray) (left : Int) (w : World) (hn : l.length = n) (h : Recs strE 1 w A l) (h1 : left ≤ 1048576) (h0 : 0 ≤ left) (hm : l.length ≤ 9223372036854775807) (hs : ∀ s ∈ l, s.size ≤ maxLen) :
    Calls Try.prog 14 #[.slice A n c, .int .i64 left] w fun e w' => ∃ r : Int, e = .returned (.int .i64 r) ∧ ((szS l ≤ left ∧ r = left - szS l) ∨ (left < szS l ∧ r = -1)) ∧ w = w' := by
  subst hn
  have hmx : maxLen ≤ 9223372036854775807 := by decide
  by_cases hl : (l.length : Int) ≤ left
  · have HS : Hid (∀ s ∈ l, s.size ≤ maxLen) := hs
    go_in
    go_wp2
    go_loopw [1, 5] (fun v i wr => ∃ (k : Nat) (x : Int), k ≤ l.length ∧ i = .int .i64 k ∧ v = .int .i64 x ∧ 0 ≤ x ∧ x ≤ left ∧ Hid (x - (szS (l.drop k) - ((l.length : Int) - k)) = left - szS l) ∧ w = wr) (fun _ i _ => l.length - (intOf i).toNat)
    case atStart => exact ⟨0, _, Nat.zero_le _, rfl, rfl, by omega, by omega, Lib.hid (by simp only [List.drop_zero]; omega), rfl⟩
    case round =>
      obtain ⟨k, x, hk, rfl, rfl, hx0, hxl, HX, rfl⟩ := hrel
      by_cases hlt : k < l.length
      · obtain ⟨b3, o3, y3, rfl, hbb3, hy3, hc3⟩ := h.at_str hlt
        have HD := Lib.hid (show l.drop k = y3 :: l.drop (k + 1) by rw [List.drop_eq_getElem_cons hlt]; congr 1; rw [List.getElem?_eq_getElem hlt] at hy3; injection hy3)
        have hy3m := HS.out y3 (List.mem_of_getElem? hy3)
        have E := Lib.hid (show (x - (y3.size : Int)) - (szS (l.drop (k + 1)) - ((l.length : Int) - (k + 1))) = left - szS l by have := HX.out; rw [HD.out, szS_cons] at this; omega)
        clear hy3
        by_cases hx : (y3.size : Int) ≤ x
        · go_wp2
          go_roundw
          case rel => exact ⟨k + 1, x - y3.size, by omega, by go_num, by go_num, by omega, by omega, E, trivial⟩
          case measure => simp [intOf]; omega
        · go_wp2
          go_ret
          refine ⟨_, rfl, Or.inr ⟨?_, rfl⟩, rfl⟩
          have h1 := E.out
          have h2 := szS_len (l.drop (k + 1))
          rw [List.length_drop] at h2
          omega
      · obtain rfl : k = l.length := by omega
        go_wp2
        go_ret
        refine ⟨_, rfl, Or.inl ?_, rfl⟩
        have h1 := HX.out
        rw [List.drop_eq_nil_of_le (Nat.le_refl _), szS_nil] at h1
        omega
  · have e1 := Lib.hid (show left < szS l by have := szS_len l; omega)
    clear hs
    go_in
    go_wp2
    go_ret
    exact ⟨_, rfl, Or.inr ⟨e1.out, rfl⟩, rfl⟩
theorem laws_szStringS_ok (A : Option Addr) (n c : Nat) (l : List ByteArray) (left : Int) (w : World) (hn : l.length = n) (h : Recs strE 1 w A l) (h1 : left ≤ 1048576) (h0 : 0 ≤ left) (hm : l.length ≤ 9223372036854775807) (hs : ∀ s ∈ l, s.size ≤ maxLen) (hle : szS l ≤ left) :
    Calls Try.prog 14 #[.slice A n c, .int .i64 left] w fun e w' => e = .returned (.int .i64 (left - szS l)) ∧ w = w' :=
  (laws_szStringS A n c l left w hn h h1 h0 hm hs).mono fun e w' ⟨r, he, hr, hw⟩ => by
    rcases hr with ⟨_, rfl⟩ | ⟨hr, _⟩
    · exact ⟨he, hw⟩
    · omega
theorem laws_szStringS_no (A : Option Addr) (n c : Nat) (l : List ByteArray) (left : Int) (w : World) (hn : l.length = n) (h : Recs strE 1 w A l) (h1 : left ≤ 1048576) (h0 : 0 ≤ left) (hm : l.length ≤ 9223372036854775807) (hs : ∀ s ∈ l, s.size ≤ maxLen) (hle : left < szS l) :
    Calls Try.prog 14 #[.slice A n c, .int .i64 left] w fun e w' => e = .returned (.int .i64 (-1)) ∧ w = w' :=
  (laws_szStringS A n c l left w hn h h1 h0 hm hs).mono fun e w' ⟨r, he, hr, hw⟩ => by
    rcases hr with ⟨hr, _⟩ | ⟨_, rfl⟩
    · omega
    · exact ⟨he, hw⟩
end Go.Proofs.Ytnfjneogmddfdaa
