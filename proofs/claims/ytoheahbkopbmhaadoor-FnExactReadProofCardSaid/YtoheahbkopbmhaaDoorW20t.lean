/- The walks through the text of a proof, both sides. -/
import Derived.Test.YtoheahbkopbmhaaDoorP20t
import Derived.Test.YtoheahbkopbmhaaDoorWdec
import Derived.Test.YtoheahbkopbmhaaDoorApp2
import Derived.Deep.RegionHeld3
import Derived.Deep.DeepCutAuto
namespace Go.Proofs.YtoheahbkopbmhaaDoor
set_option linter.unusedVariables false
set_option linter.unusedSimpArgs false
open Go.ChangeShapes Go.WideShapes Go.ChangeAt Go.RowKit Go.Deep
set_option maxRecDepth 100000 in
theorem impl_joined {A : Option Addr} {n c : Nat} {l : List ByteArray} {w : World} (hn : l.length = n) (h : Strs w A l) (hcap : n ≤ c) (hz : n ≤ 1000000) (hj : (jnK l l.length).size ≤ 1000000) :
    Calls Tryd.prog 33 #[.slice A n c, .string { data := #[32] }] w fun e w' => e = .returned (.string (jnK l l.length)) ∧ Below w.heap.size w w' := by
  subst hn
  by_cases h0 : l.length = 0
  · obtain rfl := List.length_eq_zero_iff.1 h0
    show Calls Tryd.prog 33 #[.slice A 0 c, .string { data := #[32] }] w fun e w' => e = .returned (.string { data := #[] }) ∧ Below w.heap.size w w'
    clear h hcap hz hj h0
    go_in
    go_wp2_with fail
    refine (Tryd.strings_Join_none A c { data := #[32] } w).mono ?_; rintro e w' ⟨rfl, rfl⟩
    go_wp2
    go_ret
    exact ⟨rfl, Below.refl _ _⟩
  · obtain ⟨b, o, rfl, hb, hc⟩ := h.cells (by omega)
    have hcells : ∀ (j : Nat) x, l[j]? = some x → w.cell? ⟨b, o + j, none⟩ = some (.string x) := fun j x hx => by simpa using hc j x 0 _ hx rfl
    have HC := Lib.hid hcells
    have HE := Lib.hid (join_jn l)
    have HLn := Lib.hid (join_len l hj)
    clear hc hcells h
    go_in
    go_wp2_with fail
    refine (Tryd.strings_Join b o c l _ _ HC.out hb (by omega) hcap HLn.out).mono ?_; rw [HE.out]; rintro e w' ⟨rfl, hb'⟩
    go_wp2
    go_ret
    exact ⟨rfl, hb'⟩
set_option maxHeartbeats 2000000 in
set_option maxRecDepth 100000 in
theorem impl_proofText {AH : Option Addr} {nH cH : Nat} {lH : List ByteArray} {AL : Option Addr} {nL cL : Nat} {lL : List Line3} {w : World} (hnH : lH.length = nH) (hH : Strs w AH lH) (hnL : lL.length = nL) (hL : Recs lineE 3 w AL lL) (hzH : nH ≤ 1048576) (hzL : nL ≤ 1048576) (hsH : ∀ s ∈ lH, s.size ≤ 16777216) (hsL : ∀ x ∈ lL, x.1.size ≤ 16777216) (hcap : nH ≤ cH) (hg : goodPf lH lL = true) :
    Calls Tryd.prog 17 #[.agg #[.slice AH nH cH, .slice AL nL cL]] w fun e w' => e = .returned (.string (pfT lH lL)) ∧ Below w.heap.size w w' := by
  subst hnH hnL
  obtain ⟨g1, g2, g3, g4⟩ := goodPf_t2 hg
  have HG4 := Lib.hid g4
  have hj := jn_600 hg
  have HH := Lib.hid hH
  have HL := Lib.hid hL
  have b0 : Below w.heap.size w (w.alloc (.cells ⟨[.slice AH lH.length cH, .slice AL lL.length cL]⟩ 25)) := by (repeat' (first | (with_reducible exact Below.refl _ _) | (with_reducible assumption) | (with_reducible refine below_drewN ?_ _) | (with_reducible refine Below.drew ?_) | (with_reducible refine below_alloc ?_ _) | (with_reducible refine Below.alloc ?_ ?_ _) | (with_reducible refine Below.setCell ?_ ?_ _) | (with_reducible refine below_go ?_ (by with_reducible assumption)) | (with_reducible refine below_then (by with_reducible assumption) ?_ ?_) | go_size))
  have K0 := Blk.at_ w 25 [.slice AH lH.length cH, .slice AL lL.length cL] (b := w.heap.size) rfl
  clear g4 hg hsH hsL hH hL
  go_in
  go_upto_region 1 with fail
  obtain ⟨w1, hw1⟩ : ∃ u, u = (w.alloc (.cells #[.slice AH lH.length cH, .slice AL lL.length cL] 25)) := ⟨_, rfl⟩
  rw [← hw1] at b0 K0 ⊢
  clear hw1
  have c0 : w1.cell? ⟨w.heap.size, 0, none⟩ = some (.slice AH lH.length cH) := by simpa using K0.cell 0
  go_wp2_with fail
  refine (impl_joined rfl (HH.out.up b0) hcap (by omega) (by omega)).mono ?_; rintro e w2 ⟨rfl, hb2⟩
  have hB2 := below_go b0 hb2
  have K2 := K0.up hb2
  have c1 : w2.cell? ⟨w.heap.size, 1, none⟩ = some (.slice AL lL.length cL) := by simpa using K2.cell 1
  obtain ⟨J, hJ⟩ : ∃ J, J = jnK lH lH.length := ⟨_, rfl⟩
  rw [← hJ] at hj ⊢
  have HJ := Lib.hid (show pfT lH lL = lnK (J ++ ⟨#[10]⟩) lL lL.length by rw [pfT, hJ])
  have hj6 : (J ++ (⟨#[10]⟩ : ByteArray)).size ≤ 600 := by rw [ByteArray.size_append]; have : (⟨#[10]⟩ : ByteArray).size = 1 := rfl; omega
  have HJ6 := Lib.hid hj6
  have hjc : ¬ 9223372036854775807 < J.size + 1 := by omega
  clear hJ c0 hj6
  go_wp2
  go_loopw [3, 13] (fun t i wr => ∃ k : Nat, k ≤ lL.length ∧ i = .int .i64 k ∧ t = .string (lnK (J ++ ⟨#[10]⟩) lL k) ∧ Below w.heap.size w wr) (fun _ i _ => lL.length - (intOf i).toNat)
  case atStart => exact ⟨0, Nat.zero_le _, rfl, rfl, hB2⟩
  case round =>
    obtain ⟨k, hk, rfl, rfl, hbr⟩ := hrel
    rename World => wr
    obtain ⟨s, hs0⟩ : ∃ s, s = lnK (J ++ ⟨#[10]⟩) lL k := ⟨_, rfl⟩
    have hss : s.size ≤ 600 + 40 * k := by rw [hs0]; exact lnK_size HG4.out HJ6.out k hk
    rw [← hs0]
    have HS0 := Lib.hid hs0
    clear hs0
    by_cases hlt : k < lL.length
    · obtain ⟨⟨r, p, q⟩, hx⟩ := some_of_lt hlt
      obtain ⟨a, b, e1, e2, ha, hb, hr⟩ := goodLn_t2 (HG4.out _ (List.mem_of_getElem? hx))
      dsimp only at e1 e2 hr
      subst e1 e2
      obtain ⟨b1, o1, hA, hbb, hc0, hc1, hc2⟩ := (HL.out.below hbr (Nat.le_refl _)).at_3 hx
      subst hA
      dsimp only at hc0 hc1 hc2
      have HS1 := Lib.hid (show s ++ (((((r ++ ⟨#[32]⟩) ++ decS a) ++ ⟨#[46]⟩) ++ decS b) ++ ⟨#[10]⟩) = lnK (J ++ ⟨#[10]⟩) lL (k + 1) by rw [HS0.out, lnK_succ hx]; rfl)
      have d1 := dec_small (n := a) (by omega)
      have d2 := dec_small (n := b) (by omega)
      have z1 : ¬ 9223372036854775807 < r.size + 1 := by omega
      have z2 : ¬ 9223372036854775807 < r.size + 1 + (decS a).size := by omega
      have z3 : ¬ 9223372036854775807 < r.size + 1 + (decS a).size + 1 := by omega
      have z4 : ¬ 9223372036854775807 < r.size + 1 + (decS a).size + 1 + (decS b).size := by omega
      have z5 : ¬ 9223372036854775807 < r.size + 1 + (decS a).size + 1 + (decS b).size + 1 := by omega
      have z6 : ¬ 9223372036854775807 < s.size + (r.size + 1 + (decS a).size + 1 + (decS b).size + 1) := by omega
      have ha1 : a < 100 := by omega
      have hb1 : b < 100 := by omega
      clear hx
      go_wp2
      go_quiet ((first | (go_at_call 34; exact quiet_left (impl_decimal_s (i := a) ha1)) | (go_at_call 34; exact quiet_left (impl_decimal_s (i := b) hb1))))
      go_wp2
      go_roundw
      case rel => exact ⟨k + 1, by omega, by go_num, by rw [← HS1.out], by (repeat' (first | (with_reducible exact Below.refl _ _) | (with_reducible assumption) | (with_reducible refine below_drewN ?_ _) | (with_reducible refine Below.drew ?_) | (with_reducible refine below_alloc ?_ _) | (with_reducible refine Below.alloc ?_ ?_ _) | (with_reducible refine Below.setCell ?_ ?_ _) | (with_reducible refine below_go ?_ (by with_reducible assumption)) | (with_reducible refine below_then (by with_reducible assumption) ?_ ?_) | go_size))⟩
      case measure => simp [intOf]; omega
    · obtain rfl : k = lL.length := by omega
      go_wp2
      go_ret
      exact ⟨by rw [HS0.out, HJ.out]; rfl, hbr⟩
set_option maxHeartbeats 2000000 in
set_option maxRecDepth 100000 in
theorem spec_l20Text {AH : Option Addr} {nH cH : Nat} {lH : List ByteArray} {AL : Option Addr} {nL cL : Nat} {lL : List Line3} {w : World} (hnH : lH.length = nH) (hH : Strs w AH lH) (hnL : lL.length = nL) (hL : Recs lineE 3 w AL lL) (hzH : nH ≤ 1048576) (hzL : nL ≤ 1048576) (hsH : ∀ s ∈ lH, s.size ≤ 16777216) (hsL : ∀ x ∈ lL, x.1.size ≤ 16777216) (hg : goodPf lH lL = true) :
    Calls Tryd.prog 12 #[.agg #[.slice AH nH cH, .slice AL nL cL]] w fun e w' => e = .returned (.string (pfT lH lL)) ∧ Below w.heap.size w w' := by
  subst hnH hnL
  obtain ⟨g1, g2, g3, g4⟩ := goodPf_t2 hg
  have HG3 := Lib.hid g3
  have HG4 := Lib.hid g4
  have HJ5 := Lib.hid (jn_600 hg)
  have HH := Lib.hid hH
  have HL := Lib.hid hL
  have b0 : Below w.heap.size w (w.alloc (.cells ⟨[.slice AH lH.length cH, .slice AL lL.length cL]⟩ 25)) := by (repeat' (first | (with_reducible exact Below.refl _ _) | (with_reducible assumption) | (with_reducible refine below_drewN ?_ _) | (with_reducible refine Below.drew ?_) | (with_reducible refine below_alloc ?_ _) | (with_reducible refine Below.alloc ?_ ?_ _) | (with_reducible refine Below.setCell ?_ ?_ _) | (with_reducible refine below_go ?_ (by with_reducible assumption)) | (with_reducible refine below_then (by with_reducible assumption) ?_ ?_) | go_size))
  have K0 := Blk.at_ w 25 [.slice AH lH.length cH, .slice AL lL.length cL] (b := w.heap.size) rfl
  clear g3 g4 hg hsH hsL hH hL
  go_in
  go_upto_region 1 with fail
  obtain ⟨w1, hw1⟩ : ∃ u, u = (w.alloc (.cells #[.slice AH lH.length cH, .slice AL lL.length cL] 25)) := ⟨_, rfl⟩
  rw [← hw1] at b0 K0 ⊢
  clear hw1
  have c0 : w1.cell? ⟨w.heap.size, 0, none⟩ = some (.slice AH lH.length cH) := by simpa using K0.cell 0
  have c1 : w1.cell? ⟨w.heap.size, 1, none⟩ = some (.slice AL lL.length cL) := by simpa using K0.cell 1
  clear K0
  go_wp2
  go_loopw [3, 11] (fun t i wr => ∃ k : Nat, k ≤ lH.length ∧ i = .int .i64 k ∧ t = .string (jnK lH k) ∧ w1 = wr) (fun _ i _ => lH.length - (intOf i).toNat)
  case atStart => exact ⟨0, Nat.zero_le _, rfl, rfl, rfl⟩
  case round =>
    obtain ⟨k, hk, rfl, rfl, rfl⟩ := hrel
    have hss := jnK_size HG3.out k hk
    by_cases hlt : k < lH.length
    · obtain ⟨b1, o1, y, rfl, hbb, hy, hcy⟩ := (HH.out.up b0).at_str hlt
      have hy8 := HG3.out y (List.mem_of_getElem? hy)
      by_cases h0 : 0 < k
      · have hI : (0 : Int) < (k : Int) := by omega
        have HS1 := Lib.hid (jnK_more h0 hy)
        obtain ⟨s, hs⟩ : ∃ s, s = jnK lH k := ⟨_, rfl⟩
        rw [← hs] at hss HS1 ⊢
        have z1 : ¬ 9223372036854775807 < s.size + 1 := by omega
        have z2 : ¬ 9223372036854775807 < s.size + 1 + y.size := by omega
        clear hy hs
        go_wp2
        go_roundw
        case rel => exact ⟨k + 1, by omega, by go_num, by rw [HS1.out], trivial⟩
        case measure => simp [intOf]; omega
      · have hI : ¬ (0 : Int) < (k : Int) := by omega
        obtain rfl : k = 0 := by omega
        simp only [Nat.add_zero] at hcy
        have HS1 := Lib.hid (jnK_1 hy)
        obtain ⟨s, hs⟩ : ∃ s, s = jnK lH 0 := ⟨_, rfl⟩
        rw [← hs] at hss HS1 ⊢
        have z2 : ¬ 9223372036854775807 < s.size + y.size := by omega
        clear hy hs
        go_wp2
        go_roundw
        case rel => exact ⟨1, by omega, by go_num, by rw [HS1.out], trivial⟩
        case measure => simp [intOf]; omega
    · obtain rfl : k = lH.length := by omega
      obtain ⟨J, hJ⟩ : ∃ J, J = jnK lH lH.length := ⟨_, rfl⟩
      have hj : J.size ≤ 549 := by rw [hJ]; exact HJ5.out
      rw [← hJ] at hss ⊢
      have HJ := Lib.hid (show pfT lH lL = lnK (J ++ ⟨#[10]⟩) lL lL.length by rw [pfT, hJ])
      have hj6 : (J ++ (⟨#[10]⟩ : ByteArray)).size ≤ 600 := by rw [ByteArray.size_append]; have : (⟨#[10]⟩ : ByteArray).size = 1 := rfl; omega
      have HJ6 := Lib.hid hj6
      have hjc : ¬ 9223372036854775807 < J.size + 1 := by omega
      clear hJ hj6 hss c0
      go_wp2
      go_loopw [3, 29] (fun t i wr => ∃ k : Nat, k ≤ lL.length ∧ i = .int .i64 k ∧ t = .string (lnK (J ++ ⟨#[10]⟩) lL k) ∧ Below w.heap.size w wr) (fun _ i _ => lL.length - (intOf i).toNat)
      case atStart => exact ⟨0, Nat.zero_le _, rfl, rfl, b0⟩
      case round =>
        obtain ⟨k, hk, rfl, rfl, hbr⟩ := hrel
        rename World => wr
        obtain ⟨s, hs0⟩ : ∃ s, s = lnK (J ++ ⟨#[10]⟩) lL k := ⟨_, rfl⟩
        have hss : s.size ≤ 600 + 40 * k := by rw [hs0]; exact lnK_size HG4.out HJ6.out k hk
        rw [← hs0]
        have HS0 := Lib.hid hs0
        clear hs0
        by_cases hlt : k < lL.length
        · obtain ⟨⟨r, p, q⟩, hx⟩ := some_of_lt hlt
          obtain ⟨a, b, e1, e2, ha, hb, hr⟩ := goodLn_t2 (HG4.out _ (List.mem_of_getElem? hx))
          dsimp only at e1 e2 hr
          subst e1 e2
          obtain ⟨b1, o1, hA, hbb, hc0, hc1, hc2⟩ := (HL.out.below hbr (Nat.le_refl _)).at_3 hx
          subst hA
          dsimp only at hc0 hc1 hc2
          have HS1 := Lib.hid (show s ++ (((((r ++ ⟨#[32]⟩) ++ decS a) ++ ⟨#[46]⟩) ++ decS b) ++ ⟨#[10]⟩) = lnK (J ++ ⟨#[10]⟩) lL (k + 1) by rw [HS0.out, lnK_succ hx]; rfl)
          have d1 := dec_small (n := a) (by omega)
          have d2 := dec_small (n := b) (by omega)
          have z1 : ¬ 9223372036854775807 < r.size + 1 := by omega
          have z2 : ¬ 9223372036854775807 < r.size + 1 + (decS a).size := by omega
          have z3 : ¬ 9223372036854775807 < r.size + 1 + (decS a).size + 1 := by omega
          have z4 : ¬ 9223372036854775807 < r.size + 1 + (decS a).size + 1 + (decS b).size := by omega
          have z5 : ¬ 9223372036854775807 < r.size + 1 + (decS a).size + 1 + (decS b).size + 1 := by omega
          have z6 : ¬ 9223372036854775807 < s.size + (r.size + 1 + (decS a).size + 1 + (decS b).size + 1) := by omega
          have ha1 : a ≤ 1000000000000 := by omega
          have hb1 : b ≤ 1000000000000 := by omega
          have IA := Lib.hid (fun (u : World) => spec_l1Num a a u (Nat.le_refl _) ha1)
          have IB := Lib.hid (fun (u : World) => spec_l1Num b b u (Nat.le_refl _) hb1)
          have hb2 : Below wr.heap.size wr (wr.alloc (.cells ⟨[.string r, .int .i64 (a : Int), .int .i64 (b : Int)]⟩ 33)) := by (repeat' (first | (with_reducible exact Below.refl _ _) | (with_reducible assumption) | (with_reducible refine below_drewN ?_ _) | (with_reducible refine Below.drew ?_) | (with_reducible refine below_alloc ?_ _) | (with_reducible refine Below.alloc ?_ ?_ _) | (with_reducible refine Below.setCell ?_ ?_ _) | (with_reducible refine below_go ?_ (by with_reducible assumption)) | (with_reducible refine below_then (by with_reducible assumption) ?_ ?_) | go_size))
          have KX := Blk.at_ wr 33 [.string r, .int .i64 (a : Int), .int .i64 (b : Int)] (b := wr.heap.size) rfl
          clear hx
          go_wp2
          obtain ⟨w2, hw2⟩ : ∃ u, u = (wr.alloc (.cells #[.string r, .int .i64 (a : Int), .int .i64 (b : Int)] 33)) := ⟨_, rfl⟩
          rw [← hw2] at hb2 KX ⊢
          clear hw2
          have carry : Hid (∀ u : World, Below w2.heap.size w2 u → u.cell? ⟨wr.heap.size, 0, none⟩ = some (.string r) ∧ u.cell? ⟨wr.heap.size, 1, none⟩ = some (.int .i64 (a : Int)) ∧ u.cell? ⟨wr.heap.size, 2, none⟩ = some (.int .i64 (b : Int))) := Lib.hid (fun u hu => by
            have L0 := KX.up hu
            exact ⟨by simpa using L0.cell 0, by simpa using L0.cell 1, by simpa using L0.cell 2⟩)
          have C0 : Below w2.heap.size w2 w2.drew := (Below.refl _ _).drew
          go_region_held3 (fun u => u.cell? ⟨wr.heap.size, 0, none⟩ = some (.string r) ∧ u.cell? ⟨wr.heap.size, 1, none⟩ = some (.int .i64 (a : Int)) ∧ u.cell? ⟨wr.heap.size, 2, none⟩ = some (.int .i64 (b : Int))) (first | exact carry.out _ C2 | exact carry.out _ C1 | exact carry.out _ C0) (first | (go_at_call 27; (with_reducible refine (IA.out _).mono ?_); rintro e w5 ⟨rfl, hb5⟩; have C2 := C1.trans (hb5.mono C1.size)) | (go_at_call 27; (with_reducible refine (IB.out _).mono ?_); rintro e w5 ⟨rfl, hb5⟩; have C2 := C1.trans (hb5.mono C1.size)) | (go_at_call 27; (with_reducible refine (IA.out _).mono ?_); rintro e w4 ⟨rfl, hb4⟩; have C1 := C0.trans (hb4.mono C0.size)) | (go_at_call 27; (with_reducible refine (IB.out _).mono ?_); rintro e w4 ⟨rfl, hb4⟩; have C1 := C0.trans (hb4.mono C0.size)))
          all_goals
            have hBE := below_go (below_go hbr hb2) C2
            go_wp2
            go_roundw
            case rel => exact ⟨k + 1, by omega, by go_num, by rw [← HS1.out], hBE⟩
            case measure => simp [intOf]; omega
        · obtain rfl : k = lL.length := by omega
          go_wp2
          go_ret
          exact ⟨by rw [HS0.out, HJ.out]; rfl, hbr⟩
end Go.Proofs.YtoheahbkopbmhaaDoor
