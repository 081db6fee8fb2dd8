/- The walk through the library's exchange of two ranges, at strikes. -/
import Derived.Test.YthffeljicohpdaaP21m
import Derived.BigRegion
namespace Go.Proofs.Ythffeljicohpdaa
set_option linter.unusedVariables false
set_option linter.unusedSimpArgs false
open Go.ChangeShapes Go.WideShapes Go.ChangeAt Go.RowKit Go.Deep
/-- Two elements exchanged. -/
def swL (D : List (Int × Int)) (i j : Nat) : List (Int × Int) := (D.set i (D.getD j (0, 0))).set j (D.getD i (0, 0))
def swR (D : List (Int × Int)) (a b : Nat) : Nat → List (Int × Int)
  | 0 => D
  | k + 1 => swL (swR D a b k) (a + k) (b + k)
theorem swL_len (D : List (Int × Int)) (i j : Nat) : (swL D i j).length = D.length := by rw [swL, List.length_set, List.length_set]
theorem swR_len (D : List (Int × Int)) (a b : Nat) : ∀ k, (swR D a b k).length = D.length
  | 0 => rfl
  | k + 1 => by rw [swR, swL_len, swR_len D a b k]
theorem own_sw {E : TypeId} {w : World} {g base n c i j : Nat} {D : List (Int × Int)} {x y : Int × Int} (hO : Owned strikeE 2 E w base (some ⟨g, 0, none⟩) n c D) (hb : base ≤ g) (hs : g < w.heap.size) (hx : D[i]? = some x) (hy : D[j]? = some y) (hij : i ≠ j) :
    Owned strikeE 2 E ((((w.setCell ⟨g, i * 2, none⟩ (.int .i64 y.1)).setCell ⟨g, i * 2 + 1, none⟩ (.int .i64 y.2)).setCell ⟨g, j * 2, none⟩ (.int .i64 x.1)).setCell ⟨g, j * 2 + 1, none⟩ (.int .i64 x.2)) base (some ⟨g, 0, none⟩) n c (swL D i j) ∧
    Below base w ((((w.setCell ⟨g, i * 2, none⟩ (.int .i64 y.1)).setCell ⟨g, i * 2 + 1, none⟩ (.int .i64 y.2)).setCell ⟨g, j * 2, none⟩ (.int .i64 x.1)).setCell ⟨g, j * 2 + 1, none⟩ (.int .i64 x.2)) := by
  have hi := (List.getElem?_eq_some_iff.1 hx).1
  have hj := (List.getElem?_eq_some_iff.1 hy).1
  have gb : ∀ k, some g = some k → base ≤ k := fun k hk => by injection hk with hk; omega
  obtain ⟨o1, g1⟩ := hO.put (k := i) (j := 0) (x := (y.1, x.2)) (u := .int .i64 y.1) hx (by decide) rfl
  have e1 : (D.set i (y.1, x.2))[i]? = some (y.1, x.2) := by rw [List.getElem?_set_self hi]
  obtain ⟨o2, g2⟩ := o1.put (k := i) (j := 1) (x := y) (u := .int .i64 y.2) e1 (by decide) rfl
  rw [List.set_set] at o2
  have e2 : (D.set i y)[j]? = some y := by rw [List.getElem?_set_ne hij, hy]
  obtain ⟨o3, g3⟩ := o2.put (k := j) (j := 0) (x := (x.1, y.2)) (u := .int .i64 x.1) e2 (by decide) rfl
  have e3 : ((D.set i y).set j (x.1, y.2))[j]? = some (x.1, y.2) := by rw [List.getElem?_set_self (by rw [List.length_set]; exact hj)]
  obtain ⟨o4, g4⟩ := o3.put (k := j) (j := 1) (x := x) (u := .int .i64 x.2) e3 (by decide) rfl
  rw [List.set_set] at o4
  simp only [Nat.add_zero] at o4 g1 g2 g3 g4
  refine ⟨?_, ?_⟩
  · rw [swL, List.getD, List.getD, hx, hy]; exact o4
  · have s1 := g1.size; have s2 := g2.size; have s3 := g3.size
    exact (((((Below.refl base w).grown g1 (by omega) gb).grown g2 (by omega) gb).grown g3 (by omega) gb).grown g4 (by omega) gb)
set_option maxHeartbeats 1000000 in
set_option maxRecDepth 100000 in
theorem sl_swapRange {A : Option Addr} {n c base a b k : Nat} {D : List (Int × Int)} {F : Value} {w : World} (hO : Owned strikeE 2 34 w base A n c D) (hz : n ≤ 16777216) (hab : a + k ≤ b) (hbn : b + k ≤ n) :
    Calls Try.prog 27 #[.slice A n c, .int .i64 a, .int .i64 b, .int .i64 k, F] w fun e w' => e = .returned (.tuple #[]) ∧ Owned strikeE 2 34 w' base A n c (swR D a b k) ∧ Below base w w' := by
  go_in
  go_wp2
  go_loopw [10] (fun i wr => ∃ m : Nat, m ≤ k ∧ i = .int .i64 m ∧ Hid (Owned strikeE 2 34 wr base A n c (swR D a b m)) ∧ Below base w wr) (fun i _ => k - (intOf i).toNat)
  case atStart => exact ⟨0, Nat.zero_le _, rfl, Lib.hid hO, Below.refl _ _⟩
  case round =>
    obtain ⟨m, hm, rfl, HO, hb⟩ := hrel
    rename World => wr
    by_cases hlt : m < k
    · have hI : (m : Int) < (k : Int) := by omega
      have hL := HO.out.len
      obtain ⟨x, hx⟩ := some_of_lt (l := swR D a b m) (k := a + m) (by omega)
      obtain ⟨y, hy⟩ := some_of_lt (l := swR D a b m) (k := b + m) (by omega)
      obtain ⟨f, rfl, f0, f1, fc, ff⟩ := HO.out.at_ (by omega)
      have x0 := fc _ x 0 _ hx rfl
      have x1 := fc _ x 1 _ hx rfl
      have y0 := fc _ y 0 _ hy rfl
      have y1 := fc _ y 1 _ hy rfl
      simp only [Nat.add_zero] at x0 y0
      have g0 := ff ((a + m) * 2)
      have g1 := ff ((a + m) * 2 + 1)
      have g2 := ff ((b + m) * 2)
      have g3 := ff ((b + m) * 2 + 1)
      have n1 : ¬ (a + m) * 2 = (b + m) * 2 := by omega
      have n2 : ¬ (b + m) * 2 = (a + m) * 2 := by omega
      have HX := Lib.hid hx
      have HY := Lib.hid hy
      clear fc ff hx hy
      go_wp2
      go_region
      have HF := own_sw HO.out f0 f1 HX.out HY.out (by omega)
      have HFO := Lib.hid HF.1.drew
      have HFB := Lib.hid (hb.trans HF.2).drew
      clear HF
      go_wp2
      go_roundw
      case rel => exact ⟨m + 1, by omega, by go_num, HFO, HFB.out⟩
      case measure => simp [intOf]; omega
    · have hI : ¬ (m : Int) < (k : Int) := by omega
      obtain rfl : m = k := by omega
      go_wp2
      go_end0
      exact ⟨rfl, HO.out, hb⟩
end Go.Proofs.Ythffeljicohpdaa
