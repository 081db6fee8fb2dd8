/- The walks through ProofText, both sides. -/
import Derived.Test.YtmlhdchglhkhiaaDoorW20t
namespace Go.Proofs.YtmlhdchglhkhiaaDoor
set_option linter.unusedVariables false
set_option linter.unusedSimpArgs false
open Go.ChangeShapes Go.WideShapes Go.ChangeAt Go.RowKit Go.Deep
theorem szL_each2 : ∀ (l : List Line3), ∀ x ∈ l, (x.1.size : Int) ≤ szL l
  | [], x, hx => by cases hx
  | y :: l, x, hx => by
    have h0 := szL_nonneg l
    rw [szL]
    rcases List.mem_cons.1 hx with rfl | hx
    · omega
    · have := szL_each2 l x hx
      omega
set_option maxHeartbeats 1000000 in
set_option maxRecDepth 100000 in
theorem impl_ProofText {AH : Option Addr} {nH cH : Nat} {lH : List ByteArray} {AL : Option Addr} {nL cL : Nat} {lL : List Line3} {w : World} (hnH : lH.length = nH) (hH : Strs w AH lH) (hnL : lL.length = nL) (hL : Recs lineE 3 w AL lL) (hzH : nH ≤ 1048576) (hzL : nL ≤ 1048576) (hsH : ∀ s ∈ lH, s.size ≤ 16777216) (hsL : ∀ x ∈ lL, x.1.size ≤ 16777216) (hcap : nH ≤ cH) :
    Calls Tryd.prog 25 #[.agg #[.slice AH nH cH, .slice AL nL cL]] w fun e w' => e = .returned (.tuple #[.string (pfR lH lL), .bool (goodPf lH lL)]) ∧ Below w.heap.size w w' := by
  have b0 : Below w.heap.size w (w.alloc (.cells ⟨[.slice AH nH cH, .slice AL nL cL]⟩ 47)) := by (repeat' (first | (with_reducible exact Below.refl _ _) | (with_reducible assumption) | (with_reducible refine below_drewN ?_ _) | (with_reducible refine Below.drew ?_) | (with_reducible refine below_alloc ?_ _) | (with_reducible refine Below.alloc ?_ ?_ _) | (with_reducible refine Below.setCell ?_ ?_ _) | (with_reducible refine below_go ?_ (by with_reducible assumption)) | (with_reducible refine below_then (by with_reducible assumption) ?_ ?_) | go_size))
  have K0 := Blk.at_ w 47 [.slice AH nH cH, .slice AL nL cL] (b := w.heap.size) rfl
  have HH := Lib.hid hH; have HL := Lib.hid hL
  have HSH := Lib.hid hsH; have HSL := Lib.hid hsL
  have HN := Lib.hid hnH; have HM := Lib.hid hnL
  clear hH hL hsH hsL hnH hnL
  go_in
  go_upto_region 1 with fail
  obtain ⟨w1, hw1⟩ : ∃ u, u = (w.alloc (.cells #[.slice AH nH cH, .slice AL nL cL] 47)) := ⟨_, rfl⟩
  rw [← hw1] at b0 K0 ⊢
  clear hw1
  have c0 : w1.cell? ⟨w.heap.size, 0, none⟩ = some (.slice AH nH cH) := by simpa using K0.cell 0
  have c1 : w1.cell? ⟨w.heap.size, 1, none⟩ = some (.slice AL nL cL) := by simpa using K0.cell 1
  go_wp2_with fail
  refine (impl_goodProof HN.out (HH.out.up b0) HM.out (HL.out.up b0) hzH hzL HSH.out HSL.out).mono ?_; rintro e w2 ⟨rfl, hb2⟩
  have hB2 := below_go b0 hb2
  have K2 := K0.up hb2
  clear c0 c1
  have c0 : w2.cell? ⟨w.heap.size, 0, none⟩ = some (.slice AH nH cH) := by simpa using K2.cell 0
  have c1 : w2.cell? ⟨w.heap.size, 1, none⟩ = some (.slice AL nL cL) := by simpa using K2.cell 1
  clear K0 K2
  rcases hg : goodPf lH lL
  · have e1 := Lib.hid (pfR_f hg)
    have HG := Lib.hid hg
    go_wp2
    go_ret2
    rw [e1.out, HG.out]
    exact ⟨rfl, hB2⟩
  · have e1 := Lib.hid (pfR_t hg)
    have HG := Lib.hid hg
    go_wp2_with fail
    refine (impl_proofText HN.out (HH.out.up hB2) HM.out (HL.out.up hB2) hzH hzL HSH.out HSL.out hcap HG.out).mono ?_; rintro e w3 ⟨rfl, hb3⟩
    go_wp2
    go_ret2
    rw [e1.out, HG.out]
    exact ⟨rfl, below_go hB2 hb3⟩
set_option maxHeartbeats 1000000 in
set_option maxRecDepth 100000 in
theorem spec_ProofText {AH : Option Addr} {nH cH : Nat} {lH : List ByteArray} {AL : Option Addr} {nL cL : Nat} {lL : List Line3} {w : World} (hnH : lH.length = nH) (hH : Strs w AH lH) (hnL : lL.length = nL) (hL : Recs lineE 3 w AL lL) (hzH : nH ≤ 1048576) (hzL : nL ≤ 1048576) (hsH : ∀ s ∈ lH, s.size ≤ 16777216) (hsL : ∀ x ∈ lL, x.1.size ≤ 16777216) :
    Calls Tryd.prog 23 #[.agg #[.slice AH nH cH, .slice AL nL cL]] w fun e w' => e = .returned (.tuple #[.string (pfR lH lL), .bool (goodPf lH lL)]) ∧ Below w.heap.size w w' := by
  have b0 : Below w.heap.size w (w.alloc (.cells ⟨[.slice AH nH cH, .slice AL nL cL]⟩ 47)) := by (repeat' (first | (with_reducible exact Below.refl _ _) | (with_reducible assumption) | (with_reducible refine below_drewN ?_ _) | (with_reducible refine Below.drew ?_) | (with_reducible refine below_alloc ?_ _) | (with_reducible refine Below.alloc ?_ ?_ _) | (with_reducible refine Below.setCell ?_ ?_ _) | (with_reducible refine below_go ?_ (by with_reducible assumption)) | (with_reducible refine below_then (by with_reducible assumption) ?_ ?_) | go_size))
  have K0 := Blk.at_ w 47 [.slice AH nH cH, .slice AL nL cL] (b := w.heap.size) rfl
  have HH := Lib.hid hH; have HL := Lib.hid hL
  have HSH := Lib.hid hsH; have HSL := Lib.hid hsL
  have HN := Lib.hid hnH; have HM := Lib.hid hnL
  clear hH hL hsH hsL hnH hnL
  go_in
  go_upto_region 1 with fail
  obtain ⟨w1, hw1⟩ : ∃ u, u = (w.alloc (.cells #[.slice AH nH cH, .slice AL nL cL] 47)) := ⟨_, rfl⟩
  rw [← hw1] at b0 K0 ⊢
  clear hw1
  have c0 : w1.cell? ⟨w.heap.size, 0, none⟩ = some (.slice AH nH cH) := by simpa using K0.cell 0
  have c1 : w1.cell? ⟨w.heap.size, 1, none⟩ = some (.slice AL nL cL) := by simpa using K0.cell 1
  go_wp2_with fail
  refine (spec_l20Shape HN.out (HH.out.up b0) HM.out (HL.out.up b0) hzH hzL HSH.out HSL.out).mono ?_; rintro e w2 ⟨rfl, hb2⟩
  have hB2 := below_go b0 hb2
  have K2 := K0.up hb2
  clear c0 c1
  have c0 : w2.cell? ⟨w.heap.size, 0, none⟩ = some (.slice AH nH cH) := by simpa using K2.cell 0
  have c1 : w2.cell? ⟨w.heap.size, 1, none⟩ = some (.slice AL nL cL) := by simpa using K2.cell 1
  clear K0 K2
  rcases hg : goodPf lH lL
  · have e1 := Lib.hid (pfR_f hg)
    have HG := Lib.hid hg
    go_wp2
    go_ret2
    rw [e1.out, HG.out]
    exact ⟨rfl, hB2⟩
  · have e1 := Lib.hid (pfR_t hg)
    have HG := Lib.hid hg
    go_wp2_with fail
    refine (spec_l20Text HN.out (HH.out.up hB2) HM.out (HL.out.up hB2) hzH hzL HSH.out HSL.out  HG.out).mono ?_; rintro e w3 ⟨rfl, hb3⟩
    go_wp2
    go_ret2
    rw [e1.out, HG.out]
    exact ⟨rfl, below_go hB2 hb3⟩
end Go.Proofs.YtmlhdchglhkhiaaDoor
