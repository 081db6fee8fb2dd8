/- The laws' own conversions of []string: copying, comparing, counting, marking. -/
import Derived.Test.YtoheahbkopbmhaaDoorBase
import Derived.Test.YtoheahbkopbmhaaDoorElems
import Derived.Test.YtoheahbkopbmhaaDoorMore
import Derived.Test.YtoheahbkopbmhaaDoorP21
import Derived.Test.YtoheahbkopbmhaaDoorRows
import Derived.StillTailTactics
import Derived.Laws.BytesArg
import Derived.Deep.RegionHeld3
namespace Go.Proofs.YtoheahbkopbmhaaDoor
set_option linter.unusedVariables false
set_option linter.unusedSimpArgs false
open Go.ChangeShapes Go.WideShapes Go.ChangeAt Go.RowKit Go.Deep
theorem bytes_same {a b : ByteArray} (h : (a.toList == b.toList) = true) : a = b := by
  have h1 : a.toList = b.toList := by simpa using h
  rw [ByteArray.toList_eq, ByteArray.toList_eq] at h1
  cases a; cases b
  congr 1
  exact Array.ext' h1
set_option maxRecDepth 100000 in
theorem laws_eqStringS (A C : Option Addr) (n n' c d : Nat) (l m : List ByteArray) (w : World) (hn : l.length = n) (hn' : m.length = n') (h : Recs strE 1 w A l) (g : Recs strE 1 w C m) (hz : n ≤ 16777216) (hz' : n' ≤ 16777216) :
    Calls Tryd.prog 18 #[.slice A n c, .slice C n' d] w fun e w' => e = .returned (.bool (decide (l = m))) ∧ Below w.heap.size w w' := by
  subst hn hn'
  by_cases hl : l.length = m.length
  · have HL := Lib.hid hl
    rw [← hl]
    clear hl
    go_in
    go_wp2
    go_loopw [5] (fun i wr => ∃ k : Nat, k ≤ l.length ∧ i = .int .i64 k ∧ Hid (∀ j, j < k → l[j]? = m[j]?) ∧ Below w.heap.size w wr) (fun i _ => l.length - (intOf i).toNat)
    case atStart => exact ⟨0, Nat.zero_le _, rfl, Lib.hid (fun j hj => absurd hj (by omega)), Below.refl _ _⟩
    case round =>
      obtain ⟨k, hk, rfl, HT, hb⟩ := hrel
      by_cases hlt : k < l.length
      · obtain ⟨b1, o1, x, rfl, _, hx, hcx⟩ := (h.below hb (Nat.le_refl _)).at_str hlt
        obtain ⟨b2, o2, y, rfl, _, hy, hcy⟩ := (g.below hb (Nat.le_refl _)).at_str (by rw [← HL.out]; exact hlt)
        have HX := Lib.hid hx
        have HY := Lib.hid hy
        clear hx hy h g
        rcases hne : (x.toList == y.toList)
        · have he := Lib.hid hne
          go_wp2
          go_quiet (fail)
          go_wp2
          go_ret
          refine ⟨ret_bool ?_, by (repeat' (first | (with_reducible exact Below.refl _ _) | (with_reducible assumption) | (with_reducible refine below_drewN ?_ _) | (with_reducible refine Below.drew ?_) | (with_reducible refine below_alloc ?_ _) | (with_reducible refine Below.alloc ?_ ?_ _) | (with_reducible refine Below.setCell ?_ ?_ _) | (with_reducible refine below_go ?_ (by with_reducible assumption)) | (with_reducible refine below_then (by with_reducible assumption) ?_ ?_) | go_size))⟩
          have hd : l ≠ m := fun e => by
            have h1 := HX.out
            rw [e, HY.out] at h1
            injection h1 with h1
            have h2 := he.out
            rw [h1] at h2
            simp at h2
          simp [hd]
        · have he := Lib.hid hne
          go_wp2
          go_quiet (fail)
          go_wp2
          go_roundw
          case rel => exact ⟨k + 1, by omega, by go_num, Lib.hid (upto_succ HT.out (by rw [HX.out, HY.out, bytes_same he.out])), by (repeat' (first | (with_reducible exact Below.refl _ _) | (with_reducible assumption) | (with_reducible refine below_drewN ?_ _) | (with_reducible refine Below.drew ?_) | (with_reducible refine below_alloc ?_ _) | (with_reducible refine Below.alloc ?_ ?_ _) | (with_reducible refine Below.setCell ?_ ?_ _) | (with_reducible refine below_go ?_ (by with_reducible assumption)) | (with_reducible refine below_then (by with_reducible assumption) ?_ ?_) | go_size))⟩
          case measure => simp [intOf]; omega
      · go_wp2
        go_ret
        refine ⟨ret_bool ?_, hb⟩
        have hd : l = m := eq_of_upto (fun j hj => HT.out j hj) (by omega) (by have := HL.out; omega)
        simp [hd]
  · have hne : ((l.length : Int) != (m.length : Int)) = true := by simp; omega
    have hd : l ≠ m := fun e => hl (by rw [e])
    have HD := Lib.hid hd
    clear hd hl
    go_in
    go_wp2
    go_ret
    refine ⟨ret_bool ?_, by (repeat' (first | (with_reducible exact Below.refl _ _) | (with_reducible assumption) | (with_reducible refine below_drewN ?_ _) | (with_reducible refine Below.drew ?_) | (with_reducible refine below_alloc ?_ _) | (with_reducible refine Below.alloc ?_ ?_ _) | (with_reducible refine Below.setCell ?_ ?_ _) | (with_reducible refine below_go ?_ (by with_reducible assumption)) | (with_reducible refine below_then (by with_reducible assumption) ?_ ?_) | go_size))⟩
    simp [HD.out]
/-- The room that a list of texts takes. -/
def szS (l : List ByteArray) : Int := (l.map fun s => (s.size : Int)).sum + l.length
theorem szS_nil : szS [] = 0 := rfl
theorem szS_cons (s : ByteArray) (l : List ByteArray) : szS (s :: l) = (s.size : Int) + szS l + 1 := by simp only [szS, List.map_cons, List.sum_cons, List.length_cons]; omega
theorem szS_len : ∀ (l : List ByteArray), (l.length : Int) ≤ szS l
  | [] => by simp [szS]
  | s :: l => by have := szS_len l; rw [szS_cons, List.length_cons]; omega
theorem szS_each : ∀ (l : List ByteArray) (s : ByteArray), s ∈ l → (s.size : Int) ≤ szS l
  | x :: l, s, h => by
    rw [szS_cons]
    have h0 := szS_len l
    rcases List.mem_cons.1 h with rfl | h
    · omega
    · have := szS_each l s h
      omega
/-- The digits of k ahead of a text. -/
def dgt (n : Nat) : ByteArray := strOfNums [48 + (n : Int) % 10]
theorem dgt_size (n : Nat) : (dgt n).size = 1 := rfl
def mkD (k : Nat) (out : ByteArray) : ByteArray := if k = 0 then out else mkD (k / 10) (dgt k ++ out)
termination_by k
decreasing_by omega
theorem mkD_0 (out : ByteArray) : mkD 0 out = out := by rw [mkD, if_pos rfl]
theorem mkD_pos {k : Nat} (h : 0 < k) (out : ByteArray) : mkD k out = mkD (k / 10) (dgt k ++ out) := by rw [mkD, if_neg (by omega)]
def markT (k : Nat) : ByteArray := ⟨#[109]⟩ ++ mkD k ByteArray.empty
def markS (k0 : Int) (j : Nat) : ByteArray := markT (k0 + (j : Int)).toNat
set_option maxRecDepth 100000 in
theorem laws_markText (k : Nat) (w : World) (hk : 0 < k ∧ k ≤ 4398046511104) :
    Calls Tryd.prog 36 #[.int .i64 k] w fun e w' => e = .returned (.string (markT k)) ∧ Below w.heap.size w w' := by
  have HT : Hid (markT k = ⟨#[109]⟩ ++ mkD k ByteArray.empty) := Lib.hid rfl
  go_in
  go_wp2
  go_loopw [0, 3] (fun i v wr => ∃ (n m : Nat) (out : ByteArray), n < 10 ^ m ∧ out.size + m ≤ 20 ∧ i = .int .i64 n ∧ n ≤ 4398046511104 ∧ v = .string out ∧ Hid (mkD k ByteArray.empty = mkD n out) ∧ Below w.heap.size w wr) (fun i _ _ => (intOf i).toNat)
  case atStart => exact ⟨k, 13, ByteArray.empty, by omega, by decide, rfl, by omega, rfl, Lib.hid rfl, Below.refl _ _⟩
  case round =>
    obtain ⟨n, m, out, hn, hm, rfl, hn4, rfl, HM, hb⟩ := hrel
    by_cases hlt : 0 < n
    · have E := Lib.hid (mkD_pos hlt out)
      have hcv := run_convert_bytes_arg (P := Tryd.prog) (wr.alloc (.cells #[.int .u8 (48 + (n : Int) % 10)] 5)) 55 5 Tryd.underlying55 Tryd.underlying5 wr.heap.size 0 1 1 [48 + (n : Int) % 10] rfl (fun i hi => by
        obtain rfl : i = 0 := by omega
        exact Box.new wr [.int .u8 (48 + (n : Int) % 10)] 5 0 _ rfl) 9 Tryd.underlying9
      have hsz : (dgt n ++ out).size = out.size + 1 := by rw [ByteArray.size_append, dgt_size]; omega
      obtain ⟨m1, rfl⟩ : ∃ m1, m = m1 + 1 := by
        rcases m with _ | m
        · simp at hn; omega
        · exact ⟨m, rfl⟩
      have hn1 : n / 10 < 10 ^ m1 := by rw [Nat.pow_succ] at hn; omega
      have hds := dgt_size n
      have hdef : strOfNums [48 + (n : Int) % 10] = dgt n := rfl
      rw [hdef] at hcv
      clear hdef
      go_wp2
      go_roundw
      case rel => exact ⟨n / 10, m1, dgt n ++ out, hn1, by omega, by go_num, by omega, rfl, Lib.hid (HM.out.trans E.out), by (repeat' (first | (with_reducible exact Below.refl _ _) | (with_reducible assumption) | (with_reducible refine below_drewN ?_ _) | (with_reducible refine Below.drew ?_) | (with_reducible refine below_alloc ?_ _) | (with_reducible refine Below.alloc ?_ ?_ _) | (with_reducible refine Below.setCell ?_ ?_ _) | (with_reducible refine below_go ?_ (by with_reducible assumption)) | (with_reducible refine below_then (by with_reducible assumption) ?_ ?_) | go_size))⟩
      case measure => simp [intOf]; omega
    · obtain rfl : n = 0 := by omega
      have E := Lib.hid (show markT k = ⟨#[109]⟩ ++ out by rw [HT.out, HM.out, mkD_0])
      have h1 : (ByteArray.mk #[109]).size = 1 := rfl
      go_wp2
      go_ret
      rw [E.out]
      exact ⟨rfl, hb⟩
set_option maxRecDepth 100000 in
theorem laws_markStringS (A : Option Addr) (n c base : Nat) (l : List ByteArray) (k0 : Int) (w : World) (h : Owned strE 1 9 w base A n c l) (hbase : base ≤ w.heap.size) (hz : n ≤ 16777216) (hk0 : 1 ≤ k0 ∧ k0 ≤ 1099511627776) :
    Calls Tryd.prog 20 #[.slice A n c, .int .i64 k0] w fun e w' => e = .returned (.int .i64 (k0 + (n : Int))) ∧ Owned strE 1 9 w' base A n c ((List.range n).map (markS k0)) ∧ w.grownBy w' (Value.slice A n c).ownBlock ∧ Below base w w' := by
  go_in
  go_wp2
  go_loopw [5, 1] (fun p q wr => ∃ (i : Nat) (m : List ByteArray), i ≤ n ∧ p = .int .i64 i ∧ q = .int .i64 (k0 + (i : Int)) ∧ Hid (∀ j, j < i → m[j]? = some (markS k0 j)) ∧ Owned strE 1 9 wr base A n c m ∧ w.grownBy wr (Value.slice A n c).ownBlock) (fun p _ _ => n - (intOf p).toNat)
  case atStart => exact ⟨0, l, Nat.zero_le _, rfl, by simp, Lib.hid (fun j hj => absurd hj (by omega)), h, ⟨rfl, rfl, rfl, Nat.le_refl _, fun _ _ _ => rfl⟩⟩
  case round =>
    obtain ⟨i, m, hi, rfl, rfl, HM, ho, hg⟩ := hrel
    by_cases hlt : i < n
    · obtain ⟨y, hy⟩ := some_of_lt (l := m) (k := i) (by rw [ho.len]; exact hlt)
      obtain ⟨g, rfl, hgb, hgs, hcell, hfz⟩ := ho.at_ (by omega)
      have old0 := hcell i y 0 _ hy rfl
      have fz0 := hfz (i * 1 + 0)
      simp only [Nat.mul_one, Nat.add_zero] at old0 fz0
      have HY := Lib.hid hy
      have HO0 := Lib.hid ho
      clear hcell hfz h hy ho
      obtain ⟨kk, hkk⟩ : ∃ kk : Nat, (kk : Int) = k0 + (i : Int) := ⟨(k0 + (i : Int)).toNat, by omega⟩
      have hms : Hid (markT kk = markS k0 i) := Lib.hid (by rw [markS, ← hkk]; rfl)
      go_wp2_with fail
      rw [← hkk]
      refine (laws_markText kk _ (by omega)).mono ?_; rintro e w1 ⟨rfl, hb1⟩
      rw [hms.out]
      have HO := Lib.hid (HO0.out.up hb1)
      have old1 := (hb1.cell (p := ⟨g, i, none⟩) hgs).trans old0
      have fz1 := (hb1.frozen (p := ⟨g, i, none⟩) hgs).trans fz0
      have hg1 := grownBy_trans hg (grown_any hb1 _)
      clear old0 fz0
      go_wp2
      go_roundw
      case rel =>
        refine ⟨i + 1, m.set i (markS k0 i), by omega, by go_num, by go_num, Lib.hid (upto_mark HM.out (by rw [HO.out.len]; exact hlt)), ?_, ?_⟩
        · have p0 := HO.out.put (j := 0) (x := markS k0 i) (u := .string (markS k0 i)) HY.out (by decide) rfl
          simp only [Nat.mul_one, Nat.add_zero] at p0
          exact p0.1
        · have p0 := HO.out.put (j := 0) (x := markS k0 i) (u := .string (markS k0 i)) HY.out (by decide) rfl
          simp only [Nat.mul_one, Nat.add_zero] at p0
          exact grownBy_trans hg1 p0.2
      case measure => simp [intOf]; omega
    · go_wp2
      go_ret
      obtain rfl : i = n := by omega
      have e1 : m = (List.range i).map (markS k0) := marks_eq HM.out ho.len
      rw [e1] at ho
      exact ⟨rfl, ho, hg, (Below.refl _ _).grown hg hbase fun k hk => (h.blk hk).1⟩
set_option maxRecDepth 100000 in
theorem laws_heldStringS (A : Option Addr) (n c : Nat) (k0 : Int) (w : World) (h : Recs strE 1 w A ((List.range n).map (markS k0))) (hz : n ≤ 16777216) (hk0 : 1 ≤ k0 ∧ k0 ≤ 1099511627776) :
    Calls Tryd.prog 22 #[.slice A n c, .int .i64 k0] w fun e w' => e = .returned (.int .i64 (k0 + (n : Int))) ∧ Below w.heap.size w w' := by
  go_in
  go_wp2
  go_loopw [5, 1] (fun p q wr => ∃ i : Nat, i ≤ n ∧ p = .int .i64 i ∧ q = .int .i64 (k0 + (i : Int)) ∧ Below w.heap.size w wr) (fun p _ _ => n - (intOf p).toNat)
  case atStart => exact ⟨0, Nat.zero_le _, rfl, by simp, Below.refl _ _⟩
  case round =>
    obtain ⟨i, hi, rfl, rfl, hb⟩ := hrel
    by_cases hlt : i < n
    · have hx : ((List.range n).map (markS k0))[i]? = some (markS k0 i) := by simp [hlt]
      obtain ⟨b1, o1, x', rfl, hbb, hx', hc0⟩ := (h.below hb (Nat.le_refl _)).at_str (k := i) (by simp; exact hlt)
      rw [hx] at hx'
      injection hx' with hx'
      subst hx'
      obtain ⟨kk, hkk⟩ : ∃ kk : Nat, (kk : Int) = k0 + (i : Int) := ⟨(k0 + (i : Int)).toNat, by omega⟩
      have hms : Hid (markT kk = markS k0 i) := Lib.hid (by rw [markS, ← hkk]; rfl)
      clear hx h
      go_wp2
      have heq : ((markS k0 i).toList == (markS k0 i).toList) = true := by simp
      go_region_held3 (fun u => u.cell? ⟨b1, o1 + i, none⟩ = some (.string (markS k0 i))) (first | assumption) (first | (go_at_call 36; rw [← hkk]; refine (laws_markText kk _ (by omega)).mono ?_; rintro e w1 ⟨rfl, hbd⟩; rw [hms.out]; have hb1 := below_of_drew hbd; have hc1 := (hb1.cell (p := ⟨b1, o1 + i, none⟩) hbb).trans hc0))
      have hb2 := hb.trans (hb1.mono hb.size)
      go_wp2
      go_roundw
      case rel => exact ⟨i + 1, by omega, by go_num, by go_num, hb2⟩
      case measure => simp [intOf]; omega
    · go_wp2
      go_ret
      obtain rfl : i = n := by omega
      exact ⟨rfl, hb⟩
end Go.Proofs.YtoheahbkopbmhaaDoor
