/- The walks through the text of strikes, both sides. -/
import Derived.Test.YtmlhdchglhkhiaaDoorP21t
import Derived.Test.YtmlhdchglhkhiaaDoorW21s
import Derived.Test.YtmlhdchglhkhiaaDoorWdec
import Derived.Test.YtmlhdchglhkhiaaDoorShelfw
import Derived.Deep.RegionHeld3
import Derived.Deep.DeepCutAuto
namespace Go.Proofs.YtmlhdchglhkhiaaDoor
set_option linter.unusedVariables false
set_option linter.unusedSimpArgs false
open Go.ChangeShapes Go.WideShapes Go.ChangeAt Go.RowKit Go.Deep
theorem cells_app (a b : ByteArray) : Lib.byteCells a.data.toList ++ Lib.strCells b = Lib.byteCells (a ++ b).data.toList := by
  rw [Lib.byteCells, Lib.strCells, Lib.byteCells, ← List.map_append]; simp
theorem cells_len (a : ByteArray) : (Lib.byteCells a.data.toList).length = a.size := by
  rw [Lib.byteCells, List.length_map]; rfl
set_option maxHeartbeats 2000000 in
set_option maxRecDepth 100000 in
theorem impl_strikesText {A : Option Addr} {n c : Nat} {l : List (Int × Int)} {w : World} (hn : l.length = n) (h : Recs strikeE 2 w A l) (hg : goodStrikes l = true) (htab : Lib.TabIs Tryd.prog w "internal/strconv.uint64pow10" .u64 Lib.pow10Tab) :
    Calls Tryd.prog 35 #[.slice A n c] w fun e w' => e = .returned (.string (stK l l.length)) ∧ Below w.heap.size w w' := by
  subst hn
  have hl2 := (goodStrikes_t hg).1
  have HST := Lib.hid (goodStrikes_t hg).2
  have HT := Lib.hid (Lib.tabBelow_of_tabIs htab)
  have HL := Lib.hid h
  have hb1 : Below w.heap.size w (w.alloc (.cells #[.pointer none, .slice none 0 0] 87)) := by (repeat' (first | (with_reducible exact Below.refl _ _) | (with_reducible assumption) | (with_reducible refine below_drewN ?_ _) | (with_reducible refine Below.drew ?_) | (with_reducible refine below_alloc ?_ _) | (with_reducible refine Below.alloc ?_ ?_ _) | (with_reducible refine Below.setCell ?_ ?_ _) | (with_reducible refine below_go ?_ (by with_reducible assumption)) | (with_reducible refine below_then (by with_reducible assumption) ?_ ?_) | go_size))
  have HB1 := Lib.hid (Lib.IsBuilderF.of (Lib.fresh_isBuilder 87 5 w))
  clear h hg htab
  go_in
  go_wp2
  go_loopw [9] (fun i wr => ∃ k : Nat, k ≤ l.length ∧ i = .int .i64 k ∧ Hid (Lib.IsBuilderF 87 5 w.heap.size w.heap.size (Lib.byteCells (stK l k).data.toList) wr) ∧ Below w.heap.size w wr) (fun i _ => l.length - (intOf i).toNat)
  case atStart => exact ⟨0, Nat.zero_le _, rfl, HB1, hb1⟩
  case round =>
    obtain ⟨k, hk, rfl, HB, hbr⟩ := hrel
    rename World => wr
    have hszr := hbr.size
    have hpl : w.heap.size < wr.heap.size := by
      rcases HB.out with q | q
      · exact q.lt
      · exact q.lt
    obtain ⟨s, hs0⟩ : ∃ s, s = stK l k := ⟨_, rfl⟩
    have hss : s.size ≤ 28 * k := by rw [hs0]; exact stK_size HST.out k hk
    rw [← hs0] at HB
    have HS0 := Lib.hid hs0
    clear hs0
    by_cases hlt : k < l.length
    · obtain ⟨⟨p, q⟩, hx⟩ := some_of_lt hlt
      have hxb := HST.out _ (List.mem_of_getElem? hx)
      dsimp only at hxb
      obtain ⟨a, rfl⟩ : ∃ a : Nat, p = (a : Int) := ⟨p.toNat, by omega⟩
      obtain ⟨b, rfl⟩ : ∃ b : Nat, q = (b : Int) := ⟨q.toNat, by omega⟩
      obtain ⟨b1, o1, hA, hbb, hc0, hc1⟩ := (HL.out.below hbr (Nat.le_refl _)).at_2 hx
      subst hA
      dsimp only at hc0 hc1
      have HSX := Lib.hid (show ((decS a ++ ⟨#[64]⟩) ++ decS b) ++ ⟨#[10]⟩ = sxS ((a : Int), (b : Int)) from rfl)
      have HS1 := Lib.hid (show s ++ (((decS a ++ ⟨#[64]⟩) ++ decS b) ++ ⟨#[10]⟩) = stK l (k + 1) by rw [HS0.out, stK_succ hx]; rfl)
      have d1 := dec_small (n := a) (by omega)
      have d2 := dec_small (n := b) (by omega)
      have z1 : ¬ 9223372036854775807 < (decS a).size + 1 := by omega
      have z2 : ¬ 9223372036854775807 < (decS a).size + 1 + (decS b).size := by omega
      have z3 : ¬ 9223372036854775807 < (decS a).size + 1 + (decS b).size + 1 := by omega
      have hzl : Hid ((Lib.byteCells s.data.toList).length + (((decS a ++ ⟨#[64]⟩) ++ decS b) ++ (⟨#[10]⟩ : ByteArray)).size ≤ 140737488355328) := Lib.hid (by
        have e1 : (⟨#[64]⟩ : ByteArray).size = 1 := rfl
        have e3 : (⟨#[10]⟩ : ByteArray).size = 1 := rfl
        rw [cells_len]
        simp only [ByteArray.size_append]
        omega)
      have ha1 : a ≤ 1000000000000 := by omega
      have hb2' : b ≤ 1000000000000 := by omega
      have IA := Lib.hid (fun (u : World) (hu : Below w.heap.size w u) => impl_decimal (w := u) ha1 (HT.out u hu))
      have IB := Lib.hid (fun (u : World) (hu : Below w.heap.size w u) => impl_decimal (w := u) hb2' (HT.out u hu))
      have hb2 : Below wr.heap.size wr (wr.alloc (.cells ⟨[.int .i64 (a : Int), .int .i64 (b : Int)]⟩ 57)) := by (repeat' (first | (with_reducible exact Below.refl _ _) | (with_reducible assumption) | (with_reducible refine below_drewN ?_ _) | (with_reducible refine Below.drew ?_) | (with_reducible refine below_alloc ?_ _) | (with_reducible refine Below.alloc ?_ ?_ _) | (with_reducible refine Below.setCell ?_ ?_ _) | (with_reducible refine below_go ?_ (by with_reducible assumption)) | (with_reducible refine below_then (by with_reducible assumption) ?_ ?_) | go_size))
      have KX := Blk.at_ wr 57 [.int .i64 (a : Int), .int .i64 (b : Int)] (b := wr.heap.size) rfl
      have HB2 := Lib.hid (bld_up HB.out hb2)
      clear hx
      go_wp2
      obtain ⟨w2, hw2⟩ : ∃ u, u = (wr.alloc (.cells #[.int .i64 (a : Int), .int .i64 (b : Int)] 57)) := ⟨_, rfl⟩
      rw [← hw2] at hb2 KX HB2 ⊢
      clear hw2
      have hBr2 := below_go hbr hb2
      have hsz2 := hBr2.size
      have carry : Hid (∀ u : World, Blk u wr.heap.size 57 [.int .i64 (a : Int), .int .i64 (b : Int)] → u.cell? ⟨wr.heap.size, 0, none⟩ = some (.int .i64 (a : Int)) ∧ u.cell? ⟨wr.heap.size, 1, none⟩ = some (.int .i64 (b : Int))) := Lib.hid (fun u hu => by
        exact ⟨by simpa using hu.cell 0, by simpa using hu.cell 1⟩)
      have C0 : Below w2.heap.size w2 w2.drew := (Below.refl _ _).drew
      have X0 := KX.up C0
      have W0 := below_go hBr2 C0
      go_region_held3 (fun u => u.cell? ⟨wr.heap.size, 0, none⟩ = some (.int .i64 (a : Int)) ∧ u.cell? ⟨wr.heap.size, 1, none⟩ = some (.int .i64 (b : Int))) (first | exact carry.out _ X3 | exact carry.out _ X2 | exact carry.out _ X1 | exact carry.out _ X0) (first | (go_at_call 65; (refine (Tryd.Builder_WriteString_k w.heap.size w.heap.size _ _ _ (bld_up HB2.out C2) hzl.out W2.size).mono ?_); rintro e w6 ⟨rfl, hbl6, hB6, ho6⟩; have X3 := X2.others ho6 (by omega) (by decide); have W3 := W2.trans hB6) | (go_at_call 41; (with_reducible refine (IA.out _ W1).mono ?_); rintro e w5 ⟨rfl, hb5⟩; have C2 := C1.trans (hb5.mono C1.size); have X2 := X1.up hb5; have W2 := below_go W1 hb5) | (go_at_call 41; (with_reducible refine (IB.out _ W1).mono ?_); rintro e w5 ⟨rfl, hb5⟩; have C2 := C1.trans (hb5.mono C1.size); have X2 := X1.up hb5; have W2 := below_go W1 hb5) | (go_at_call 41; (with_reducible refine (IA.out _ W0).mono ?_); rintro e w4 ⟨rfl, hb4⟩; have C1 := C0.trans (hb4.mono C0.size); have X1 := X0.up hb4; have W1 := below_go W0 hb4) | (go_at_call 41; (with_reducible refine (IB.out _ W0).mono ?_); rintro e w4 ⟨rfl, hb4⟩; have C1 := C0.trans (hb4.mono C0.size); have X1 := X0.up hb4; have W1 := below_go W0 hb4))
      all_goals
        rw [cells_app, HS1.out] at hbl6
        have HBF := Lib.hid (Or.inr hbl6 : Lib.IsBuilderF 87 5 w.heap.size w.heap.size (Lib.byteCells (stK l (k + 1)).data.toList) w6)
        go_wp2
        go_roundw
        case rel => exact ⟨k + 1, by omega, by go_num, HBF, W3⟩
        case measure => simp [intOf]; omega
    · obtain rfl : k = l.length := by omega
      go_wp2_with fail
      refine (Tryd.Builder_String_any_k w.heap.size w.heap.size _ _ HB.out hszr).mono ?_; rintro e w6 ⟨rfl, _, hB6, _⟩
      have hfin : (⟨s.data.toList.toArray⟩ : ByteArray) = stK l l.length := by rw [HS0.out]
      rw [hfin]
      go_wp2
      go_ret
      exact ⟨rfl, hbr.trans hB6⟩
set_option maxHeartbeats 2000000 in
set_option maxRecDepth 100000 in
theorem spec_l21Text {A : Option Addr} {n c : Nat} {l : List (Int × Int)} {w : World} (hn : l.length = n) (h : Recs strikeE 2 w A l) (hg : goodStrikes l = true) :
    Calls Tryd.prog 32 #[.slice A n c] w fun e w' => e = .returned (.string (stK l l.length)) ∧ Below w.heap.size w w' := by
  subst hn
  have hl2 := (goodStrikes_t hg).1
  have HST := Lib.hid (goodStrikes_t hg).2
  have HL := Lib.hid h
  clear h hg
  go_in
  go_wp2
  go_loopw [3, 8] (fun v i wr => ∃ k : Nat, k ≤ l.length ∧ i = .int .i64 k ∧ v = .string (stK l k) ∧ Below w.heap.size w wr) (fun _ i _ => l.length - (intOf i).toNat)
  case atStart => exact ⟨0, Nat.zero_le _, rfl, rfl, Below.refl _ _⟩
  case round =>
    obtain ⟨k, hk, rfl, rfl, hbr⟩ := hrel
    rename World => wr
    obtain ⟨s, hs0⟩ : ∃ s, s = stK l k := ⟨_, rfl⟩
    have hss : s.size ≤ 28 * k := by rw [hs0]; exact stK_size HST.out k hk
    rw [← hs0]
    have HS0 := Lib.hid hs0
    clear hs0
    by_cases hlt : k < l.length
    · obtain ⟨⟨p, q⟩, hx⟩ := some_of_lt hlt
      have hxb := HST.out _ (List.mem_of_getElem? hx)
      dsimp only at hxb
      obtain ⟨a, rfl⟩ : ∃ a : Nat, p = (a : Int) := ⟨p.toNat, by omega⟩
      obtain ⟨b, rfl⟩ : ∃ b : Nat, q = (b : Int) := ⟨q.toNat, by omega⟩
      obtain ⟨b1, o1, hA, hbb, hc0, hc1⟩ := (HL.out.below hbr (Nat.le_refl _)).at_2 hx
      subst hA
      dsimp only at hc0 hc1
      have HS1 := Lib.hid (show s ++ (((decS a ++ ⟨#[64]⟩) ++ decS b) ++ ⟨#[10]⟩) = stK l (k + 1) by rw [HS0.out, stK_succ hx]; rfl)
      have d1 := dec_small (n := a) (by omega)
      have d2 := dec_small (n := b) (by omega)
      have z1 : ¬ 9223372036854775807 < (decS a).size + 1 := by omega
      have z2 : ¬ 9223372036854775807 < (decS a).size + 1 + (decS b).size := by omega
      have z3 : ¬ 9223372036854775807 < (decS a).size + 1 + (decS b).size + 1 := by omega
      have z4 : ¬ 9223372036854775807 < s.size + ((decS a).size + 1 + (decS b).size + 1) := by omega
      have ha1 : a ≤ 1000000000000 := by omega
      have hb1 : b ≤ 1000000000000 := by omega
      have IA := Lib.hid (fun (u : World) => spec_l1Num a a u (Nat.le_refl _) ha1)
      have IB := Lib.hid (fun (u : World) => spec_l1Num b b u (Nat.le_refl _) hb1)
      have hb2 : Below wr.heap.size wr (wr.alloc (.cells ⟨[.int .i64 (a : Int), .int .i64 (b : Int)]⟩ 57)) := by (repeat' (first | (with_reducible exact Below.refl _ _) | (with_reducible assumption) | (with_reducible refine below_drewN ?_ _) | (with_reducible refine Below.drew ?_) | (with_reducible refine below_alloc ?_ _) | (with_reducible refine Below.alloc ?_ ?_ _) | (with_reducible refine Below.setCell ?_ ?_ _) | (with_reducible refine below_go ?_ (by with_reducible assumption)) | (with_reducible refine below_then (by with_reducible assumption) ?_ ?_) | go_size))
      have KX := Blk.at_ wr 57 [.int .i64 (a : Int), .int .i64 (b : Int)] (b := wr.heap.size) rfl
      clear hx
      go_wp2
      obtain ⟨w2, hw2⟩ : ∃ u, u = (wr.alloc (.cells #[.int .i64 (a : Int), .int .i64 (b : Int)] 57)) := ⟨_, rfl⟩
      rw [← hw2] at hb2 KX ⊢
      clear hw2
      have carry : Hid (∀ u : World, Below w2.heap.size w2 u → u.cell? ⟨wr.heap.size, 0, none⟩ = some (.int .i64 (a : Int)) ∧ u.cell? ⟨wr.heap.size, 1, none⟩ = some (.int .i64 (b : Int))) := Lib.hid (fun u hu => by
        have L0 := KX.up hu
        exact ⟨by simpa using L0.cell 0, by simpa using L0.cell 1⟩)
      have C0 : Below w2.heap.size w2 w2.drew := (Below.refl _ _).drew
      go_region_held3 (fun u => u.cell? ⟨wr.heap.size, 0, none⟩ = some (.int .i64 (a : Int)) ∧ u.cell? ⟨wr.heap.size, 1, none⟩ = some (.int .i64 (b : Int))) (first | exact carry.out _ C2 | exact carry.out _ C1 | exact carry.out _ C0) (first | (go_at_call 38; (with_reducible refine (IA.out _).mono ?_); rintro e w5 ⟨rfl, hb5⟩; have C2 := C1.trans (hb5.mono C1.size)) | (go_at_call 38; (with_reducible refine (IB.out _).mono ?_); rintro e w5 ⟨rfl, hb5⟩; have C2 := C1.trans (hb5.mono C1.size)) | (go_at_call 38; (with_reducible refine (IA.out _).mono ?_); rintro e w4 ⟨rfl, hb4⟩; have C1 := C0.trans (hb4.mono C0.size)) | (go_at_call 38; (with_reducible refine (IB.out _).mono ?_); rintro e w4 ⟨rfl, hb4⟩; have C1 := C0.trans (hb4.mono C0.size)))
      all_goals
        have hBE := below_go (below_go hbr hb2) C2
        go_wp2
        go_roundw
        case rel => exact ⟨k + 1, by omega, by go_num, by rw [← HS1.out], hBE⟩
        case measure => simp [intOf]; omega
    · obtain rfl : k = l.length := by omega
      go_wp2
      go_ret
      exact ⟨by rw [HS0.out]; rfl, hbr⟩
set_option maxRecDepth 100000 in
theorem impl_StrikesText {A : Option Addr} {n c : Nat} {l : List (Int × Int)} {w : World} (hn : l.length = n) (h : Recs strikeE 2 w A l) (hz : n ≤ 16777216) (htab : Lib.TabIs Tryd.prog w "internal/strconv.uint64pow10" .u64 Lib.pow10Tab) :
    Calls Tryd.prog 11 #[.slice A n c] w fun e w' => e = .returned (.tuple #[.string (stR l), .bool (goodStrikes l)]) ∧ Below w.heap.size w w' := by
  have HT := Lib.hid (Lib.tabBelow_of_tabIs htab)
  have HN := Lib.hid hn
  clear htab hn
  rcases hg : goodStrikes l
  · have e1 := Lib.hid (stR_f hg)
    have HG := Lib.hid hg
    go_in
    go_wp2_with (first | (go_at_call 34; refine (impl_GoodStrikes HN.out h hz).mono ?_; rw [HG.out]; rintro e w1 ⟨rfl, hb1⟩))
    go_ret2
    rw [e1.out]
    exact ⟨rfl, hb1⟩
  · have e1 := Lib.hid (stR_t hg)
    have HG := Lib.hid hg
    go_in
    go_wp2_with fail
    refine (impl_GoodStrikes HN.out h hz).mono ?_; rw [HG.out]; rintro e w1 ⟨rfl, hb1⟩
    go_wp2_with fail
    refine (impl_strikesText HN.out (h.up hb1) HG.out (HT.out _ hb1)).mono ?_; rintro e w2 ⟨rfl, hb2⟩
    go_wp2
    go_ret2
    rw [e1.out]
    exact ⟨rfl, below_go hb1 hb2⟩
set_option maxRecDepth 100000 in
theorem spec_StrikesText {A : Option Addr} {n c : Nat} {l : List (Int × Int)} {w : World} (hn : l.length = n) (h : Recs strikeE 2 w A l) (hz : n ≤ 16777216) :
    Calls Tryd.prog 9 #[.slice A n c] w fun e w' => e = .returned (.tuple #[.string (stR l), .bool (goodStrikes l)]) ∧ Below w.heap.size w w' := by
  have HN := Lib.hid hn
  clear hn
  rcases hg : goodStrikes l
  · have e1 := Lib.hid (stR_f hg)
    have HG := Lib.hid hg
    go_in
    go_wp2_with (first | (go_at_call 31; refine (spec_l21Good HN.out h hz).mono ?_; rw [HG.out]; rintro e w1 ⟨rfl, hb1⟩))
    go_ret2
    rw [e1.out]
    exact ⟨rfl, hb1⟩
  · have e1 := Lib.hid (stR_t hg)
    have HG := Lib.hid hg
    go_in
    go_wp2_with fail
    refine (spec_l21Good HN.out h hz).mono ?_; rw [HG.out]; rintro e w1 ⟨rfl, hb1⟩
    go_wp2_with fail
    refine (spec_l21Text HN.out (h.up hb1) HG.out).mono ?_; rintro e w2 ⟨rfl, hb2⟩
    go_wp2
    go_ret2
    rw [e1.out]
    exact ⟨rfl, below_go hb1 hb2⟩
end Go.Proofs.YtmlhdchglhkhiaaDoor
