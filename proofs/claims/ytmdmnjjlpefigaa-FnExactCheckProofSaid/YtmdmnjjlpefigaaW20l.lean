/- Checking proofs, both sides. -/
import Derived.Test.YtmdmnjjlpefigaaW20k
namespace Go.Proofs.Ytmdmnjjlpefigaa
set_option linter.unusedVariables false
set_option linter.unusedSimpArgs false
open Go.ChangeShapes Go.WideShapes Go.ChangeAt Go.RowKit Go.Deep
theorem szL_each : ∀ (l : List Line3), ∀ x ∈ l, (x.1.size : Int) ≤ szL l
  | [], x, hx => by cases hx
  | y :: l, x, hx => by
    have h0 := szL_nonneg l
    rw [szL]
    rcases List.mem_cons.1 hx with rfl | hx
    · omega
    · have := szL_each l x hx
      omega
/-- Is the question a good one? -/
def pfOk (nm : ByteArray) (st : Int) (l : List ByteArray) (kb ks t : ByteArray) (lH : List ByteArray) (lL : List Line3) : Bool := goodF nm st l kb ks t && goodPf lH lL
def cpV (nm : ByteArray) (st : Int) (l : List ByteArray) (kb ks t : ByteArray) (lH : List ByteArray) (lL : List Line3) : Bool := if pfOk nm st l kb ks t lH lL = true then decide (flZ st.toNat l kb ks t lH lL < 0) else false
def foV (nm : ByteArray) (st : Int) (l : List ByteArray) (kb ks t : ByteArray) (lH : List ByteArray) (lL : List Line3) : Bool := pfOk nm st l kb ks t lH lL && !decide (flZ st.toNat l kb ks t lH lL < 0)
def fvV (nm : ByteArray) (st : Int) (l : List ByteArray) (kb ks t : ByteArray) (lH : List ByteArray) (lL : List Line3) : Int := if foV nm st l kb ks t lH lL = true then flZ st.toNat l kb ks t lH lL else 0
section
variable {nm : ByteArray} {l : List ByteArray} {kb ks t : ByteArray} {lH : List ByteArray} {lL : List Line3}
theorem cpV_f {st : Int} (h : pfOk nm st l kb ks t lH lL = false) : cpV nm st l kb ks t lH lL = false := by rw [cpV, if_neg (by rw [h]; simp)]
theorem foV_f {st : Int} (h : pfOk nm st l kb ks t lH lL = false) : foV nm st l kb ks t lH lL = false := by rw [foV, h, Bool.false_and]
theorem fvV_f {st : Int} (h : foV nm st l kb ks t lH lL = false) : fvV nm st l kb ks t lH lL = 0 := by rw [fvV, if_neg (by rw [h]; simp)]
theorem cpV_t {m : Nat} (h : pfOk nm (m : Int) l kb ks t lH lL = true) : cpV nm m l kb ks t lH lL = decide (flZ m l kb ks t lH lL < 0) := by rw [cpV, if_pos h]; rfl
theorem foV_no {m : Nat} (h : flZ m l kb ks t lH lL < 0) : foV nm (m : Int) l kb ks t lH lL = false := by
  rw [foV, show ((m : Int).toNat) = m from rfl, decide_eq_true h]; simp
theorem foV_yes {m : Nat} (h : pfOk nm (m : Int) l kb ks t lH lL = true) (h2 : ¬ flZ m l kb ks t lH lL < 0) : foV nm (m : Int) l kb ks t lH lL = true ∧ fvV nm (m : Int) l kb ks t lH lL = flZ m l kb ks t lH lL := by
  have h3 : foV nm (m : Int) l kb ks t lH lL = true := by rw [foV, h, show ((m : Int).toNat) = m from rfl, decide_eq_false h2]; rfl
  exact ⟨h3, by rw [fvV, if_pos h3]; rfl⟩
theorem flZ_wrong {st : Nat} (h : rightB st l kb ks t lH = false) : flZ st l kb ks t lH lL = 0 := by rw [flZ, if_neg (by rw [h]; simp)]
theorem flZ_len {st : Nat} (h : rightB st l kb ks t lH = true) (h2 : ¬ lL.length = t.size * l.length) : flZ st l kb ks t lH lL = 1 := by rw [flZ, if_pos h, if_neg h2]
theorem flZ_lie {st : Nat} (h : rightB st l kb ks t lH = true) (h2 : lL.length = t.size * l.length) : flZ st l kb ks t lH lL = if lieZ t.size l lH lL < 0 then -1 else lieZ t.size l lH lL + 2 := by
  rw [flZ, if_pos h, if_pos h2, lieZ2, lieZ]
  rcases lieIx t.size l lH lL with _ | i
  · rfl
  · show (i : Int) + 2 = if (i : Int) < 0 then -1 else (i : Int) + 2
    rw [if_neg (by omega)]
theorem lieZ_lo (T : Nat) (l lH : List ByteArray) (lL : List Line3) : -1 ≤ lieZ T l lH lL ∧ lieZ T l lH lL ≤ lL.length := by
  rw [lieZ]
  split
  · rename_i i hi
    rw [lieIx, List.find?_range_eq_some] at hi
    have := List.mem_range.1 hi.2.1
    omega
  · omega
theorem flZ_lo (st : Nat) (l : List ByteArray) (kb ks t : ByteArray) (lH : List ByteArray) (lL : List Line3) : -1 ≤ flZ st l kb ks t lH lL ∧ flZ st l kb ks t lH lL ≤ lL.length + 2 := by
  have h := lieZ_lo t.size l lH lL
  rcases hr : rightB st l kb ks t lH
  · rw [flZ_wrong hr]; omega
  · by_cases h2 : lL.length = t.size * l.length
    · rw [flZ_lie hr h2]; split <;> omega
    · rw [flZ_len hr h2]; omega
end
set_option maxHeartbeats 4000000 in
set_option maxRecDepth 100000 in
theorem impl_CheckProof {A : Option Addr} {n c : Nat} {nm : ByteArray} {st : Int} {l : List ByteArray} {kb ks : ByteArray} {t : ByteArray} {AH : Option Addr} {nH cH : Nat} {lH : List ByteArray} {AL : Option Addr} {nL cL : Nat} {lL : List Line3} {w : World} (hn : l.length = n) (h : Strs w A l) (hz : n ≤ 1048576) (hs : ∀ s ∈ l, s.size ≤ 16777216) (hnm : nm.size ≤ 16777216) (hst : I64 st) (hkb : kb.size ≤ 16777216) (hks : ks.size ≤ 16777216) (hcap : n ≤ c) (ht : t.size ≤ 16777216) (hnH : lH.length = nH) (hH : Strs w AH lH) (hnL : lL.length = nL) (hL : Recs lineE 3 w AL lL) (hzH : nH ≤ 1048576) (hzL : nL ≤ 1048576) (hsH : ∀ s ∈ lH, s.size ≤ 16777216) (hsL : ∀ x ∈ lL, x.1.size ≤ 16777216) :
    Calls Try.prog 49 #[.agg #[.string nm, .int .i64 st, .slice A n c], .agg #[.string kb, .string ks], .string t, .agg #[.slice AH nH cH, .slice AL nL cL]] w fun e w' => e = .returned (.tuple #[.bool (cpV nm st l kb ks t lH lL), .bool (pfOk nm st l kb ks t lH lL)]) ∧ Below w.heap.size w w' := by
  have b0 : Below w.heap.size w (((w.alloc (.cells ⟨[.string nm, .int .i64 st, .slice A n c]⟩ 42)).alloc (.cells ⟨[.string kb, .string ks]⟩ 44)).alloc (.cells ⟨[.slice AH nH cH, .slice AL nL cL]⟩ 71)) := by (repeat' (first | (with_reducible exact Below.refl _ _) | (with_reducible assumption) | (with_reducible refine below_drewN ?_ _) | (with_reducible refine Below.drew ?_) | (with_reducible refine below_alloc ?_ _) | (with_reducible refine Below.alloc ?_ ?_ _) | (with_reducible refine Below.setCell ?_ ?_ _) | (with_reducible refine below_go ?_ (by with_reducible assumption)) | (with_reducible refine below_then (by with_reducible assumption) ?_ ?_) | go_size))
  have K0 := ((Blk.at_ w 42 [.string nm, .int .i64 st, .slice A n c] (b := w.heap.size) rfl).alloc (.cells ⟨[.string kb, .string ks]⟩ 44)).alloc (.cells ⟨[.slice AH nH cH, .slice AL nL cL]⟩ 71)
  have K1 := (Blk.at_ (w.alloc (.cells ⟨[.string nm, .int .i64 st, .slice A n c]⟩ 42)) 44 [.string kb, .string ks] (b := w.heap.size + 1) (by simp)).alloc (.cells ⟨[.slice AH nH cH, .slice AL nL cL]⟩ 71)
  have K2 := Blk.at_ ((w.alloc (.cells ⟨[.string nm, .int .i64 st, .slice A n c]⟩ 42)).alloc (.cells ⟨[.string kb, .string ks]⟩ 44)) 71 [.slice AH nH cH, .slice AL nL cL] (b := w.heap.size + 1 + 1) (by simp)
  have HQ : Hid (pfOk nm st l kb ks t lH lL = (goodF nm st l kb ks t && goodPf lH lL)) := Lib.hid rfl
  go_in
  go_wp2_with fail
  obtain ⟨w0, hw0⟩ : ∃ u, u = (((w.alloc (.cells #[.string nm, .int .i64 st, .slice A n c] 42)).alloc (.cells #[.string kb, .string ks] 44)).alloc (.cells #[.slice AH nH cH, .slice AL nL cL] 71)) := ⟨_, rfl⟩
  rw [← hw0] at b0 K0 K1 K2 ⊢
  clear hw0
  refine (impl_goodFor hn (h.up b0) hz hs hnm hst hkb hks ht).mono ?_; rintro e w1 ⟨rfl, hb1⟩
  have hB1 := below_go b0 hb1
  rcases hf : goodF nm st l kb ks t
  · have e2 := Lib.hid (show pfOk nm st l kb ks t lH lL = false by rw [HQ.out, hf]; rfl)
    have e1 := Lib.hid (cpV_f e2.out)
    go_wp2
    go_ret2
    rw [e1.out, e2.out]
    exact ⟨rfl, by (repeat' (first | (with_reducible exact Below.refl _ _) | (with_reducible assumption) | (with_reducible refine below_drewN ?_ _) | (with_reducible refine Below.drew ?_) | (with_reducible refine below_alloc ?_ _) | (with_reducible refine Below.alloc ?_ ?_ _) | (with_reducible refine Below.setCell ?_ ?_ _) | (with_reducible refine below_go ?_ (by with_reducible assumption)) | (with_reducible refine below_then (by with_reducible assumption) ?_ ?_) | go_size))⟩
  have L0 := K0.up hb1; have L1 := K1.up hb1; have L2 := K2.up hb1
  have p0 := L2.cell 0; have p1 := L2.cell 1
  simp only [List.getElem?_cons_zero, List.getElem?_cons_succ] at p0 p1
  go_wp2_with fail
  refine (impl_goodProof hnH (hH.up hB1) hnL (hL.up hB1) hzH hzL hsH hsL).mono ?_; rintro e w2 ⟨rfl, hb2⟩
  have hB2 := below_go hB1 hb2
  clear p0 p1
  rcases hg : goodPf lH lL
  · have e2 := Lib.hid (show pfOk nm st l kb ks t lH lL = false by rw [HQ.out, hf, hg]; rfl)
    have e1 := Lib.hid (cpV_f e2.out)
    go_wp2
    go_ret2
    rw [e1.out, e2.out]
    exact ⟨rfl, by (repeat' (first | (with_reducible exact Below.refl _ _) | (with_reducible assumption) | (with_reducible refine below_drewN ?_ _) | (with_reducible refine Below.drew ?_) | (with_reducible refine below_alloc ?_ _) | (with_reducible refine Below.alloc ?_ ?_ _) | (with_reducible refine Below.setCell ?_ ?_ _) | (with_reducible refine below_go ?_ (by with_reducible assumption)) | (with_reducible refine below_then (by with_reducible assumption) ?_ ?_) | go_size))⟩
  obtain ⟨hk, hgt⟩ := goodF_t' hf
  obtain ⟨m, rfl⟩ : ∃ m : Nat, st = (m : Int) := ⟨st.toNat, by
    have := (goodM_t (goodK_t hk).1).2.1
    omega⟩
  have e2 := Lib.hid (show pfOk nm m l kb ks t lH lL = true by rw [HQ.out, hf, hg]; rfl)
  have M0 := L0.up hb2; have M1 := L1.up hb2; have M2 := L2.up hb2
  clear L0 L1 L2 K0 K1 K2
  have k0 := M0.cell 0; have k1 := M0.cell 1; have k2 := M0.cell 2; have q0 := M1.cell 0; have q1 := M1.cell 1; have p0 := M2.cell 0; have p1 := M2.cell 1
  simp only [List.getElem?_cons_zero, List.getElem?_cons_succ] at k0 k1 k2 q0 q1 p0 p1
  go_wp2_with fail
  refine (impl_firstLie hn (h.up hB2) hk hgt hcap hnH (hH.up hB2) hnL (hL.up hB2) hzH hzL hsH hsL hg).mono ?_; rintro e w3 ⟨rfl, hb3⟩
  have e1 := Lib.hid (cpV_t e2.out)
  go_wp2
  go_ret2
  rw [e1.out, e2.out]
  exact ⟨rfl, below_go hB2 hb3⟩
set_option maxHeartbeats 4000000 in
set_option maxRecDepth 100000 in
theorem impl_FirstLie {A : Option Addr} {n c : Nat} {nm : ByteArray} {st : Int} {l : List ByteArray} {kb ks : ByteArray} {t : ByteArray} {AH : Option Addr} {nH cH : Nat} {lH : List ByteArray} {AL : Option Addr} {nL cL : Nat} {lL : List Line3} {w : World} (hn : l.length = n) (h : Strs w A l) (hz : n ≤ 1048576) (hs : ∀ s ∈ l, s.size ≤ 16777216) (hnm : nm.size ≤ 16777216) (hst : I64 st) (hkb : kb.size ≤ 16777216) (hks : ks.size ≤ 16777216) (hcap : n ≤ c) (ht : t.size ≤ 16777216) (hnH : lH.length = nH) (hH : Strs w AH lH) (hnL : lL.length = nL) (hL : Recs lineE 3 w AL lL) (hzH : nH ≤ 1048576) (hzL : nL ≤ 1048576) (hsH : ∀ s ∈ lH, s.size ≤ 16777216) (hsL : ∀ x ∈ lL, x.1.size ≤ 16777216) :
    Calls Try.prog 52 #[.agg #[.string nm, .int .i64 st, .slice A n c], .agg #[.string kb, .string ks], .string t, .agg #[.slice AH nH cH, .slice AL nL cL]] w fun e w' => e = .returned (.tuple #[.int .i64 (fvV nm st l kb ks t lH lL), .bool (foV nm st l kb ks t lH lL)]) ∧ Below w.heap.size w w' := by
  have b0 : Below w.heap.size w (((w.alloc (.cells ⟨[.string nm, .int .i64 st, .slice A n c]⟩ 42)).alloc (.cells ⟨[.string kb, .string ks]⟩ 44)).alloc (.cells ⟨[.slice AH nH cH, .slice AL nL cL]⟩ 71)) := by (repeat' (first | (with_reducible exact Below.refl _ _) | (with_reducible assumption) | (with_reducible refine below_drewN ?_ _) | (with_reducible refine Below.drew ?_) | (with_reducible refine below_alloc ?_ _) | (with_reducible refine Below.alloc ?_ ?_ _) | (with_reducible refine Below.setCell ?_ ?_ _) | (with_reducible refine below_go ?_ (by with_reducible assumption)) | (with_reducible refine below_then (by with_reducible assumption) ?_ ?_) | go_size))
  have K0 := ((Blk.at_ w 42 [.string nm, .int .i64 st, .slice A n c] (b := w.heap.size) rfl).alloc (.cells ⟨[.string kb, .string ks]⟩ 44)).alloc (.cells ⟨[.slice AH nH cH, .slice AL nL cL]⟩ 71)
  have K1 := (Blk.at_ (w.alloc (.cells ⟨[.string nm, .int .i64 st, .slice A n c]⟩ 42)) 44 [.string kb, .string ks] (b := w.heap.size + 1) (by simp)).alloc (.cells ⟨[.slice AH nH cH, .slice AL nL cL]⟩ 71)
  have K2 := Blk.at_ ((w.alloc (.cells ⟨[.string nm, .int .i64 st, .slice A n c]⟩ 42)).alloc (.cells ⟨[.string kb, .string ks]⟩ 44)) 71 [.slice AH nH cH, .slice AL nL cL] (b := w.heap.size + 1 + 1) (by simp)
  have HQ : Hid (pfOk nm st l kb ks t lH lL = (goodF nm st l kb ks t && goodPf lH lL)) := Lib.hid rfl
  go_in
  go_wp2_with fail
  obtain ⟨w0, hw0⟩ : ∃ u, u = (((w.alloc (.cells #[.string nm, .int .i64 st, .slice A n c] 42)).alloc (.cells #[.string kb, .string ks] 44)).alloc (.cells #[.slice AH nH cH, .slice AL nL cL] 71)) := ⟨_, rfl⟩
  rw [← hw0] at b0 K0 K1 K2 ⊢
  clear hw0
  refine (impl_goodFor hn (h.up b0) hz hs hnm hst hkb hks ht).mono ?_; rintro e w1 ⟨rfl, hb1⟩
  have hB1 := below_go b0 hb1
  rcases hf : goodF nm st l kb ks t
  · have e2 := Lib.hid (show pfOk nm st l kb ks t lH lL = false by rw [HQ.out, hf]; rfl)
    have e1 := Lib.hid (foV_f e2.out)
    have e3 := Lib.hid (fvV_f e1.out)
    go_wp2
    go_ret2
    rw [e3.out, e1.out]
    exact ⟨rfl, by (repeat' (first | (with_reducible exact Below.refl _ _) | (with_reducible assumption) | (with_reducible refine below_drewN ?_ _) | (with_reducible refine Below.drew ?_) | (with_reducible refine below_alloc ?_ _) | (with_reducible refine Below.alloc ?_ ?_ _) | (with_reducible refine Below.setCell ?_ ?_ _) | (with_reducible refine below_go ?_ (by with_reducible assumption)) | (with_reducible refine below_then (by with_reducible assumption) ?_ ?_) | go_size))⟩
  have L0 := K0.up hb1; have L1 := K1.up hb1; have L2 := K2.up hb1
  have p0 := L2.cell 0; have p1 := L2.cell 1
  simp only [List.getElem?_cons_zero, List.getElem?_cons_succ] at p0 p1
  go_wp2_with fail
  refine (impl_goodProof hnH (hH.up hB1) hnL (hL.up hB1) hzH hzL hsH hsL).mono ?_; rintro e w2 ⟨rfl, hb2⟩
  have hB2 := below_go hB1 hb2
  clear p0 p1
  rcases hg : goodPf lH lL
  · have e2 := Lib.hid (show pfOk nm st l kb ks t lH lL = false by rw [HQ.out, hf, hg]; rfl)
    have e1 := Lib.hid (foV_f e2.out)
    have e3 := Lib.hid (fvV_f e1.out)
    go_wp2
    go_ret2
    rw [e3.out, e1.out]
    exact ⟨rfl, by (repeat' (first | (with_reducible exact Below.refl _ _) | (with_reducible assumption) | (with_reducible refine below_drewN ?_ _) | (with_reducible refine Below.drew ?_) | (with_reducible refine below_alloc ?_ _) | (with_reducible refine Below.alloc ?_ ?_ _) | (with_reducible refine Below.setCell ?_ ?_ _) | (with_reducible refine below_go ?_ (by with_reducible assumption)) | (with_reducible refine below_then (by with_reducible assumption) ?_ ?_) | go_size))⟩
  obtain ⟨hk, hgt⟩ := goodF_t' hf
  obtain ⟨m, rfl⟩ : ∃ m : Nat, st = (m : Int) := ⟨st.toNat, by
    have := (goodM_t (goodK_t hk).1).2.1
    omega⟩
  have e2 := Lib.hid (show pfOk nm m l kb ks t lH lL = true by rw [HQ.out, hf, hg]; rfl)
  have M0 := L0.up hb2; have M1 := L1.up hb2; have M2 := L2.up hb2
  clear L0 L1 L2 K0 K1 K2
  have k0 := M0.cell 0; have k1 := M0.cell 1; have k2 := M0.cell 2; have q0 := M1.cell 0; have q1 := M1.cell 1; have p0 := M2.cell 0; have p1 := M2.cell 1
  simp only [List.getElem?_cons_zero, List.getElem?_cons_succ] at k0 k1 k2 q0 q1 p0 p1
  go_wp2_with fail
  refine (impl_firstLie hn (h.up hB2) hk hgt hcap hnH (hH.up hB2) hnL (hL.up hB2) hzH hzL hsH hsL hg).mono ?_; rintro e w3 ⟨rfl, hb3⟩
  by_cases hlt : flZ m l kb ks t lH lL < 0
  · have e1 := Lib.hid (foV_no (nm := nm) hlt)
    have e3 := Lib.hid (fvV_f e1.out)
    go_wp2
    go_ret2
    rw [e3.out, e1.out]
    exact ⟨rfl, below_go hB2 hb3⟩
  · have e1 := Lib.hid (foV_yes e2.out hlt)
    go_wp2
    go_ret2
    rw [e1.out.1, e1.out.2]
    exact ⟨rfl, below_go hB2 hb3⟩
set_option maxHeartbeats 4000000 in
set_option maxRecDepth 100000 in
theorem spec_CheckProof {A : Option Addr} {n c : Nat} {nm : ByteArray} {st : Int} {l : List ByteArray} {kb ks : ByteArray} {t : ByteArray} {AH : Option Addr} {nH cH : Nat} {lH : List ByteArray} {AL : Option Addr} {nL cL : Nat} {lL : List Line3} {w : World} (hn : l.length = n) (h : Strs w A l) (hz : n ≤ 1048576) (hs : ∀ s ∈ l, s.size ≤ 16777216) (hnm : nm.size ≤ 16777216) (hst : I64 st) (hkb : kb.size ≤ 16777216) (hks : ks.size ≤ 16777216) (hcap : n ≤ c) (ht : t.size ≤ 16777216) (hnH : lH.length = nH) (hH : Strs w AH lH) (hnL : lL.length = nL) (hL : Recs lineE 3 w AL lL) (hzH : nH ≤ 1048576) (hzL : nL ≤ 1048576) (hsH : ∀ s ∈ lH, s.size ≤ 16777216) (hsL : ∀ x ∈ lL, x.1.size ≤ 16777216) :
    Calls Try.prog 47 #[.agg #[.string nm, .int .i64 st, .slice A n c], .agg #[.string kb, .string ks], .string t, .agg #[.slice AH nH cH, .slice AL nL cL]] w fun e w' => e = .returned (.tuple #[.bool (cpV nm st l kb ks t lH lL), .bool (pfOk nm st l kb ks t lH lL)]) ∧ Below w.heap.size w w' := by
  have b0 : Below w.heap.size w (((w.alloc (.cells ⟨[.string nm, .int .i64 st, .slice A n c]⟩ 42)).alloc (.cells ⟨[.string kb, .string ks]⟩ 44)).alloc (.cells ⟨[.slice AH nH cH, .slice AL nL cL]⟩ 71)) := by (repeat' (first | (with_reducible exact Below.refl _ _) | (with_reducible assumption) | (with_reducible refine below_drewN ?_ _) | (with_reducible refine Below.drew ?_) | (with_reducible refine below_alloc ?_ _) | (with_reducible refine Below.alloc ?_ ?_ _) | (with_reducible refine Below.setCell ?_ ?_ _) | (with_reducible refine below_go ?_ (by with_reducible assumption)) | (with_reducible refine below_then (by with_reducible assumption) ?_ ?_) | go_size))
  have K0 := ((Blk.at_ w 42 [.string nm, .int .i64 st, .slice A n c] (b := w.heap.size) rfl).alloc (.cells ⟨[.string kb, .string ks]⟩ 44)).alloc (.cells ⟨[.slice AH nH cH, .slice AL nL cL]⟩ 71)
  have K1 := (Blk.at_ (w.alloc (.cells ⟨[.string nm, .int .i64 st, .slice A n c]⟩ 42)) 44 [.string kb, .string ks] (b := w.heap.size + 1) (by simp)).alloc (.cells ⟨[.slice AH nH cH, .slice AL nL cL]⟩ 71)
  have K2 := Blk.at_ ((w.alloc (.cells ⟨[.string nm, .int .i64 st, .slice A n c]⟩ 42)).alloc (.cells ⟨[.string kb, .string ks]⟩ 44)) 71 [.slice AH nH cH, .slice AL nL cL] (b := w.heap.size + 1 + 1) (by simp)
  have HQ : Hid (pfOk nm st l kb ks t lH lL = (goodF nm st l kb ks t && goodPf lH lL)) := Lib.hid rfl
  go_in
  go_wp2_with fail
  obtain ⟨w0, hw0⟩ : ∃ u, u = (((w.alloc (.cells #[.string nm, .int .i64 st, .slice A n c] 42)).alloc (.cells #[.string kb, .string ks] 44)).alloc (.cells #[.slice AH nH cH, .slice AL nL cL] 71)) := ⟨_, rfl⟩
  rw [← hw0] at b0 K0 K1 K2 ⊢
  clear hw0
  refine (spec_l20Asked hn (h.up b0) hz hs hnm hst hkb hks ht).mono ?_; rintro e w1 ⟨rfl, hb1⟩
  have hB1 := below_go b0 hb1
  rcases hf : goodF nm st l kb ks t
  · have e2 := Lib.hid (show pfOk nm st l kb ks t lH lL = false by rw [HQ.out, hf]; rfl)
    have e1 := Lib.hid (cpV_f e2.out)
    go_wp2
    go_ret2
    rw [e1.out, e2.out]
    exact ⟨rfl, by (repeat' (first | (with_reducible exact Below.refl _ _) | (with_reducible assumption) | (with_reducible refine below_drewN ?_ _) | (with_reducible refine Below.drew ?_) | (with_reducible refine below_alloc ?_ _) | (with_reducible refine Below.alloc ?_ ?_ _) | (with_reducible refine Below.setCell ?_ ?_ _) | (with_reducible refine below_go ?_ (by with_reducible assumption)) | (with_reducible refine below_then (by with_reducible assumption) ?_ ?_) | go_size))⟩
  have L0 := K0.up hb1; have L1 := K1.up hb1; have L2 := K2.up hb1
  have p0 := L2.cell 0; have p1 := L2.cell 1
  simp only [List.getElem?_cons_zero, List.getElem?_cons_succ] at p0 p1
  go_wp2_with fail
  refine (spec_l20Shape hnH (hH.up hB1) hnL (hL.up hB1) hzH hzL hsH hsL).mono ?_; rintro e w2 ⟨rfl, hb2⟩
  have hB2 := below_go hB1 hb2
  clear p0 p1
  rcases hg : goodPf lH lL
  · have e2 := Lib.hid (show pfOk nm st l kb ks t lH lL = false by rw [HQ.out, hf, hg]; rfl)
    have e1 := Lib.hid (cpV_f e2.out)
    go_wp2
    go_ret2
    rw [e1.out, e2.out]
    exact ⟨rfl, by (repeat' (first | (with_reducible exact Below.refl _ _) | (with_reducible assumption) | (with_reducible refine below_drewN ?_ _) | (with_reducible refine Below.drew ?_) | (with_reducible refine below_alloc ?_ _) | (with_reducible refine Below.alloc ?_ ?_ _) | (with_reducible refine Below.setCell ?_ ?_ _) | (with_reducible refine below_go ?_ (by with_reducible assumption)) | (with_reducible refine below_then (by with_reducible assumption) ?_ ?_) | go_size))⟩
  obtain ⟨hk, hgt⟩ := goodF_t' hf
  obtain ⟨m, rfl⟩ : ∃ m : Nat, st = (m : Int) := ⟨st.toNat, by
    have := (goodM_t (goodK_t hk).1).2.1
    omega⟩
  have e2 := Lib.hid (show pfOk nm m l kb ks t lH lL = true by rw [HQ.out, hf, hg]; rfl)
  have M0 := L0.up hb2; have M1 := L1.up hb2; have M2 := L2.up hb2
  clear L0 L1 L2 K0 K1 K2
  have k0 := M0.cell 0; have k1 := M0.cell 1; have k2 := M0.cell 2; have q0 := M1.cell 0; have q1 := M1.cell 1; have p0 := M2.cell 0; have p1 := M2.cell 1
  simp only [List.getElem?_cons_zero, List.getElem?_cons_succ] at k0 k1 k2 q0 q1 p0 p1
  go_wp2_with fail
  refine (spec_l20Good hn (h.up hB2) hk hgt hcap hnH (hH.up hB2) hnL (hL.up hB2) hzH hzL hsH hsL).mono ?_; rintro e w3 ⟨rfl, hb3⟩
  have hB3 := below_go hB2 hb3
  clear k0 k1 k2 q0 q1 p0 p1
  obtain ⟨ht1, ht60, _⟩ := goodT_t hgt
  have hn40 : n ≤ 40 := by have := (goodK_all hk).2.1; omega
  have hnL8 : nL ≤ 800 := by have := (goodPf_t hg).2.1; omega
  have hmul : t.size * n ≤ 2400 := Nat.le_trans (Nat.mul_le_mul ht60 hn40) (by decide)
  have hmI : ((t.size * n : Nat) : Int) = (t.size : Int) * (n : Int) := by push_cast; rfl
  have hwr : IntKind.i64.wrap ((t.size : Int) * (n : Int)) = (t.size : Int) * (n : Int) := wrap_id (by omega)
  have M0 := M0.up hb3; have M2 := M2.up hb3
  have k0 := M0.cell 0; have k1 := M0.cell 1; have k2 := M0.cell 2; have p0 := M2.cell 0; have p1 := M2.cell 1
  simp only [List.getElem?_cons_zero, List.getElem?_cons_succ] at k0 k1 k2 p0 p1
  clear M0 M1 M2
  rcases hR : rightB m l kb ks t lH
  · have e1 := Lib.hid (show cpV nm m l kb ks t lH lL = false by rw [cpV_t e2.out, flZ_wrong hR]; rfl)
    go_wp2
    go_ret2
    rw [e1.out, e2.out]
    exact ⟨rfl, hB3⟩
  have hhd : lH = hdsL m l kb ks t (t.size + 1) := by
    rw [rightB, Bool.and_eq_true] at hR
    exact of_decide_eq_true hR.1
  by_cases hlen : nL = t.size * n
  rotate_left
  · have e1 := Lib.hid (show cpV nm m l kb ks t lH lL = false by rw [cpV_t e2.out, flZ_len hR (by rw [hnL, hn]; exact hlen)]; rfl)
    have hne2 : ¬ (nL : Int) = (t.size : Int) * (n : Int) := by omega
    have hne3 : ((nL : Int) == (t.size : Int) * (n : Int)) = false := by simp; exact hne2
    clear hmI hlen hhd
    go_wp2
    go_ret2
    rw [e1.out, e2.out]
    exact ⟨rfl, hB3⟩
  have e1 := Lib.hid (show cpV nm m l kb ks t lH lL = decide (lieZ t.size l lH lL < 0) by
    rw [cpV_t e2.out, flZ_lie hR (by rw [hnL, hn]; exact hlen)]
    by_cases q : lieZ t.size l lH lL < 0
    · rw [if_pos q, decide_eq_true q]; rfl
    · rw [if_neg q, decide_eq_false q, decide_eq_false]; omega)
  have hqI : (nL : Int) = (t.size : Int) * (n : Int) := by omega
  have hwr2 : IntKind.i64.wrap ((t.size : Int) * (n : Int)) = (nL : Int) := by rw [← hqI]; exact wrap_id (by omega)
  have HHD := Lib.hid hhd
  have HNL := Lib.hid hnL
  have HNH := Lib.hid hnH
  clear hwr hmI hlen hqI hhd hmul hnL hnH
  go_wp2_with fail
  refine (spec_l20Lie hn (h.up hB3) hk hgt hcap HNH.out (hH.up hB3) HNL.out (hL.up hB3) hzH hzL hsH hsL hg HHD.out).mono ?_; rintro e w4 ⟨rfl, hb4⟩
  go_wp2
  go_ret2
  rw [e1.out, e2.out]
  exact ⟨rfl, below_go hB3 hb4⟩
set_option maxHeartbeats 4000000 in
set_option maxRecDepth 100000 in
theorem spec_FirstLie {A : Option Addr} {n c : Nat} {nm : ByteArray} {st : Int} {l : List ByteArray} {kb ks : ByteArray} {t : ByteArray} {AH : Option Addr} {nH cH : Nat} {lH : List ByteArray} {AL : Option Addr} {nL cL : Nat} {lL : List Line3} {w : World} (hn : l.length = n) (h : Strs w A l) (hz : n ≤ 1048576) (hs : ∀ s ∈ l, s.size ≤ 16777216) (hnm : nm.size ≤ 16777216) (hst : I64 st) (hkb : kb.size ≤ 16777216) (hks : ks.size ≤ 16777216) (hcap : n ≤ c) (ht : t.size ≤ 16777216) (hnH : lH.length = nH) (hH : Strs w AH lH) (hnL : lL.length = nL) (hL : Recs lineE 3 w AL lL) (hzH : nH ≤ 1048576) (hzL : nL ≤ 1048576) (hsH : ∀ s ∈ lH, s.size ≤ 16777216) (hsL : ∀ x ∈ lL, x.1.size ≤ 16777216) :
    Calls Try.prog 51 #[.agg #[.string nm, .int .i64 st, .slice A n c], .agg #[.string kb, .string ks], .string t, .agg #[.slice AH nH cH, .slice AL nL cL]] w fun e w' => e = .returned (.tuple #[.int .i64 (fvV nm st l kb ks t lH lL), .bool (foV nm st l kb ks t lH lL)]) ∧ Below w.heap.size w w' := by
  have b0 : Below w.heap.size w (((w.alloc (.cells ⟨[.string nm, .int .i64 st, .slice A n c]⟩ 42)).alloc (.cells ⟨[.string kb, .string ks]⟩ 44)).alloc (.cells ⟨[.slice AH nH cH, .slice AL nL cL]⟩ 71)) := by (repeat' (first | (with_reducible exact Below.refl _ _) | (with_reducible assumption) | (with_reducible refine below_drewN ?_ _) | (with_reducible refine Below.drew ?_) | (with_reducible refine below_alloc ?_ _) | (with_reducible refine Below.alloc ?_ ?_ _) | (with_reducible refine Below.setCell ?_ ?_ _) | (with_reducible refine below_go ?_ (by with_reducible assumption)) | (with_reducible refine below_then (by with_reducible assumption) ?_ ?_) | go_size))
  have K0 := ((Blk.at_ w 42 [.string nm, .int .i64 st, .slice A n c] (b := w.heap.size) rfl).alloc (.cells ⟨[.string kb, .string ks]⟩ 44)).alloc (.cells ⟨[.slice AH nH cH, .slice AL nL cL]⟩ 71)
  have K1 := (Blk.at_ (w.alloc (.cells ⟨[.string nm, .int .i64 st, .slice A n c]⟩ 42)) 44 [.string kb, .string ks] (b := w.heap.size + 1) (by simp)).alloc (.cells ⟨[.slice AH nH cH, .slice AL nL cL]⟩ 71)
  have K2 := Blk.at_ ((w.alloc (.cells ⟨[.string nm, .int .i64 st, .slice A n c]⟩ 42)).alloc (.cells ⟨[.string kb, .string ks]⟩ 44)) 71 [.slice AH nH cH, .slice AL nL cL] (b := w.heap.size + 1 + 1) (by simp)
  have HQ : Hid (pfOk nm st l kb ks t lH lL = (goodF nm st l kb ks t && goodPf lH lL)) := Lib.hid rfl
  go_in
  go_wp2_with fail
  obtain ⟨w0, hw0⟩ : ∃ u, u = (((w.alloc (.cells #[.string nm, .int .i64 st, .slice A n c] 42)).alloc (.cells #[.string kb, .string ks] 44)).alloc (.cells #[.slice AH nH cH, .slice AL nL cL] 71)) := ⟨_, rfl⟩
  rw [← hw0] at b0 K0 K1 K2 ⊢
  clear hw0
  refine (spec_l20Asked hn (h.up b0) hz hs hnm hst hkb hks ht).mono ?_; rintro e w1 ⟨rfl, hb1⟩
  have hB1 := below_go b0 hb1
  rcases hf : goodF nm st l kb ks t
  · have e2 := Lib.hid (show pfOk nm st l kb ks t lH lL = false by rw [HQ.out, hf]; rfl)
    have e1 := Lib.hid (foV_f e2.out)
    have e3 := Lib.hid (fvV_f e1.out)
    go_wp2
    go_ret2
    rw [e3.out, e1.out]
    exact ⟨rfl, by (repeat' (first | (with_reducible exact Below.refl _ _) | (with_reducible assumption) | (with_reducible refine below_drewN ?_ _) | (with_reducible refine Below.drew ?_) | (with_reducible refine below_alloc ?_ _) | (with_reducible refine Below.alloc ?_ ?_ _) | (with_reducible refine Below.setCell ?_ ?_ _) | (with_reducible refine below_go ?_ (by with_reducible assumption)) | (with_reducible refine below_then (by with_reducible assumption) ?_ ?_) | go_size))⟩
  have L0 := K0.up hb1; have L1 := K1.up hb1; have L2 := K2.up hb1
  have p0 := L2.cell 0; have p1 := L2.cell 1
  simp only [List.getElem?_cons_zero, List.getElem?_cons_succ] at p0 p1
  go_wp2_with fail
  refine (spec_l20Shape hnH (hH.up hB1) hnL (hL.up hB1) hzH hzL hsH hsL).mono ?_; rintro e w2 ⟨rfl, hb2⟩
  have hB2 := below_go hB1 hb2
  clear p0 p1
  rcases hg : goodPf lH lL
  · have e2 := Lib.hid (show pfOk nm st l kb ks t lH lL = false by rw [HQ.out, hf, hg]; rfl)
    have e1 := Lib.hid (foV_f e2.out)
    have e3 := Lib.hid (fvV_f e1.out)
    go_wp2
    go_ret2
    rw [e3.out, e1.out]
    exact ⟨rfl, by (repeat' (first | (with_reducible exact Below.refl _ _) | (with_reducible assumption) | (with_reducible refine below_drewN ?_ _) | (with_reducible refine Below.drew ?_) | (with_reducible refine below_alloc ?_ _) | (with_reducible refine Below.alloc ?_ ?_ _) | (with_reducible refine Below.setCell ?_ ?_ _) | (with_reducible refine below_go ?_ (by with_reducible assumption)) | (with_reducible refine below_then (by with_reducible assumption) ?_ ?_) | go_size))⟩
  obtain ⟨hk, hgt⟩ := goodF_t' hf
  obtain ⟨m, rfl⟩ : ∃ m : Nat, st = (m : Int) := ⟨st.toNat, by
    have := (goodM_t (goodK_t hk).1).2.1
    omega⟩
  have e2 := Lib.hid (show pfOk nm m l kb ks t lH lL = true by rw [HQ.out, hf, hg]; rfl)
  have M0 := L0.up hb2; have M1 := L1.up hb2; have M2 := L2.up hb2
  clear L0 L1 L2 K0 K1 K2
  have k0 := M0.cell 0; have k1 := M0.cell 1; have k2 := M0.cell 2; have q0 := M1.cell 0; have q1 := M1.cell 1; have p0 := M2.cell 0; have p1 := M2.cell 1
  simp only [List.getElem?_cons_zero, List.getElem?_cons_succ] at k0 k1 k2 q0 q1 p0 p1
  go_wp2_with fail
  refine (spec_l20Good hn (h.up hB2) hk hgt hcap hnH (hH.up hB2) hnL (hL.up hB2) hzH hzL hsH hsL).mono ?_; rintro e w3 ⟨rfl, hb3⟩
  have hB3 := below_go hB2 hb3
  clear k0 k1 k2 q0 q1 p0 p1
  obtain ⟨ht1, ht60, _⟩ := goodT_t hgt
  have hn40 : n ≤ 40 := by have := (goodK_all hk).2.1; omega
  have hnL8 : nL ≤ 800 := by have := (goodPf_t hg).2.1; omega
  have hmul : t.size * n ≤ 2400 := Nat.le_trans (Nat.mul_le_mul ht60 hn40) (by decide)
  have hmI : ((t.size * n : Nat) : Int) = (t.size : Int) * (n : Int) := by push_cast; rfl
  have hwr : IntKind.i64.wrap ((t.size : Int) * (n : Int)) = (t.size : Int) * (n : Int) := wrap_id (by omega)
  have M0 := M0.up hb3; have M2 := M2.up hb3
  have k0 := M0.cell 0; have k1 := M0.cell 1; have k2 := M0.cell 2; have p0 := M2.cell 0; have p1 := M2.cell 1
  simp only [List.getElem?_cons_zero, List.getElem?_cons_succ] at k0 k1 k2 p0 p1
  clear M0 M1 M2
  rcases hR : rightB m l kb ks t lH
  · have e4 := Lib.hid (flZ_wrong (l := l) (lL := lL) hR)
    have e3 := Lib.hid (foV_yes (nm := nm) e2.out (by rw [e4.out]; omega))
    go_wp2
    go_ret2
    rw [e3.out.1, e3.out.2, e4.out]
    exact ⟨rfl, hB3⟩
  have hhd : lH = hdsL m l kb ks t (t.size + 1) := by
    rw [rightB, Bool.and_eq_true] at hR
    exact of_decide_eq_true hR.1
  by_cases hlen : nL = t.size * n
  rotate_left
  · have e4 := Lib.hid (flZ_len (lL := lL) hR (by rw [hnL, hn]; exact hlen))
    have e3 := Lib.hid (foV_yes (nm := nm) e2.out (by rw [e4.out]; omega))
    have hne2 : ¬ (nL : Int) = (t.size : Int) * (n : Int) := by omega
    have hne3 : ((nL : Int) == (t.size : Int) * (n : Int)) = false := by simp; exact hne2
    have hne : ((nL : Int) != (t.size : Int) * (n : Int)) = true := by simp; omega
    clear hmI hlen hhd
    go_wp2
    go_ret2
    rw [e3.out.1, e3.out.2, e4.out]
    exact ⟨rfl, hB3⟩
  have e5 := Lib.hid (flZ_lie (lL := lL) hR (by rw [hnL, hn]; exact hlen))
  have hqI : (nL : Int) = (t.size : Int) * (n : Int) := by omega
  have hwr2 : IntKind.i64.wrap ((t.size : Int) * (n : Int)) = (nL : Int) := by rw [← hqI]; exact wrap_id (by omega)
  have HHD := Lib.hid hhd
  have HNL := Lib.hid hnL
  have HNH := Lib.hid hnH
  clear hwr hmI hlen hqI hhd hmul hnL hnH
  go_wp2_with fail
  refine (spec_l20Lie hn (h.up hB3) hk hgt hcap HNH.out (hH.up hB3) HNL.out (hL.up hB3) hzH hzL hsH hsL hg HHD.out).mono ?_; rintro e w4 ⟨rfl, hb4⟩
  have hB4 := below_go hB3 hb4
  have lo := lieZ_lo t.size l lH lL
  rw [HNL.out] at lo
  by_cases q : lieZ t.size l lH lL < 0
  · have e4 := Lib.hid (show flZ m l kb ks t lH lL = -1 by rw [e5.out, if_pos q])
    have e1 := Lib.hid (foV_no (nm := nm) (show flZ m l kb ks t lH lL < 0 by rw [e4.out]; decide))
    have e3 := Lib.hid (fvV_f e1.out)
    go_wp2
    go_ret2
    rw [e3.out, e1.out]
    exact ⟨rfl, hB4⟩
  · have e4 := Lib.hid (show flZ m l kb ks t lH lL = lieZ t.size l lH lL + 2 by rw [e5.out, if_neg q])
    have e3 := Lib.hid (foV_yes (nm := nm) e2.out (by rw [e4.out]; omega))
    have hwz : IntKind.i64.wrap (2 + lieZ t.size l lH lL) = lieZ t.size l lH lL + 2 := by rw [Int.add_comm]; exact wrap_id (by omega)
    go_wp2
    go_ret2
    rw [e3.out.1, e3.out.2, e4.out]
    exact ⟨rfl, hB4⟩
end Go.Proofs.Ytmdmnjjlpefigaa
