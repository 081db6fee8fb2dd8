/- The sign of a touch, the program's side. -/
import Derived.Test.YtmdmnjjlpefigaaW9b
import Derived.Test.YtmdmnjjlpefigaaW9c
namespace Go.Proofs.Ytmdmnjjlpefigaa
set_option linter.unusedVariables false
set_option linter.unusedSimpArgs false
open Go.ChangeShapes Go.WideShapes Go.ChangeAt Go.RowKit Go.Deep
set_option maxRecDepth 100000 in
theorem impl_touchEnd {A : Option Addr} {n c st : Nat} {nm : ByteArray} {l : List ByteArray} {kb ks : ByteArray} {t : ByteArray} {w : World} (hn : l.length = n) (h : Strs w A l) (hk : goodK nm (st : Int) l kb ks = true) (hg : goodT t = true) :
    Calls Try.prog 129 #[.agg #[.string nm, .int .i64 st, .slice A n c], .agg #[.string kb, .string ks], .string t] w fun e w' => e = .returned (.string (hdAt st l kb ks t t.size)) ∧ Below w.heap.size w w' := by
  have b0 : Below w.heap.size w ((w.alloc (.cells ⟨[.string nm, .int .i64 st, .slice A n c]⟩ 42)).alloc (.cells ⟨[.string kb, .string ks]⟩ 44)) := by (repeat' (first | (with_reducible exact Below.refl _ _) | (with_reducible assumption) | (with_reducible refine below_drewN ?_ _) | (with_reducible refine Below.drew ?_) | (with_reducible refine below_alloc ?_ _) | (with_reducible refine Below.alloc ?_ ?_ _) | (with_reducible refine Below.setCell ?_ ?_ _) | (with_reducible refine below_go ?_ (by with_reducible assumption)) | (with_reducible refine below_then (by with_reducible assumption) ?_ ?_) | go_size))
  have h60 := (goodT_t hg).2.1
  go_in
  go_wp2_with fail
  refine (impl_heads hn (h.up b0) hk hg).mono ?_; rintro e w1 ⟨A1, c1, rfl, ho, hb1⟩
  obtain ⟨g, rfl, _, _, gc, _⟩ := ho.at_ (by omega)
  have cg := gc t.size _ 0 _ (hdsL_at (Nat.lt_succ_self _)) rfl
  simp only [Nat.mul_one, Nat.add_zero] at cg
  clear gc
  go_wp2
  go_ret
  exact ⟨rfl, below_go b0 hb1⟩
theorem impl_touchSign {A : Option Addr} {n c st : Nat} {nm : ByteArray} {l : List ByteArray} {kb ks : ByteArray} {t : ByteArray} {w : World} (hn : l.length = n) (h : Strs w A l) (hk : goodK nm (st : Int) l kb ks = true) (hg : goodT t = true) :
    Calls Try.prog 82 #[.agg #[.string nm, .int .i64 st, .slice A n c], .agg #[.string kb, .string ks], .string t] w fun e w' => e = .returned (.bool (evenRow (hdAt st l kb ks t t.size))) ∧ Below w.heap.size w w' := by
  have b0 : Below w.heap.size w ((w.alloc (.cells ⟨[.string nm, .int .i64 st, .slice A n c]⟩ 42)).alloc (.cells ⟨[.string kb, .string ks]⟩ 44)) := by (repeat' (first | (with_reducible exact Below.refl _ _) | (with_reducible assumption) | (with_reducible refine below_drewN ?_ _) | (with_reducible refine Below.drew ?_) | (with_reducible refine below_alloc ?_ _) | (with_reducible refine Below.alloc ?_ ?_ _) | (with_reducible refine Below.setCell ?_ ?_ _) | (with_reducible refine below_go ?_ (by with_reducible assumption)) | (with_reducible refine below_then (by with_reducible assumption) ?_ ?_) | go_size))
  have p := hdAt_good (goodK_all hk).1.1 (goodK_all hk).1.2 l kb ks t t.size
  have h8 := (goodK_all hk).1.2
  have hz : (hdAt st l kb ks t t.size).size ≤ 16777216 := by rw [p.2]; omega
  clear p
  go_in
  go_wp2_with fail
  refine (impl_touchEnd hn (h.up b0) hk hg).mono ?_; rintro e w1 ⟨rfl, hb1⟩
  go_wp2_with fail
  refine (impl_even hz).mono ?_; rintro e w2 ⟨rfl, hb2⟩
  go_wp2
  go_ret
  exact ⟨rfl, below_go (below_go b0 hb1) hb2⟩
set_option maxHeartbeats 1000000 in
theorem impl_TouchSign {A : Option Addr} {n c : Nat} {nm : ByteArray} {st : Int} {l : List ByteArray} {kb ks : ByteArray} {t : ByteArray} {w : World} (hn : l.length = n) (h : Strs w A l) (hz : n ≤ 1048576) (hs : ∀ s ∈ l, s.size ≤ 16777216) (hnm : nm.size ≤ 16777216) (hst : I64 st) (hkb : kb.size ≤ 16777216) (hks : ks.size ≤ 16777216) (ht : t.size ≤ 16777216) :
    Calls Try.prog 32 #[.agg #[.string nm, .int .i64 st, .slice A n c], .agg #[.string kb, .string ks], .string t] w fun e w' => e = .returned (.tuple #[.bool (tsV nm st l kb ks t), .bool (goodF nm st l kb ks t)]) ∧ Below w.heap.size w w' := by
  have b0 : Below w.heap.size w ((w.alloc (.cells ⟨[.string nm, .int .i64 st, .slice A n c]⟩ 42)).alloc (.cells ⟨[.string kb, .string ks]⟩ 44)) := by (repeat' (first | (with_reducible exact Below.refl _ _) | (with_reducible assumption) | (with_reducible refine below_drewN ?_ _) | (with_reducible refine Below.drew ?_) | (with_reducible refine below_alloc ?_ _) | (with_reducible refine Below.alloc ?_ ?_ _) | (with_reducible refine Below.setCell ?_ ?_ _) | (with_reducible refine below_go ?_ (by with_reducible assumption)) | (with_reducible refine below_then (by with_reducible assumption) ?_ ?_) | go_size))
  have K0 := (Blk.at_ w 42 [.string nm, .int .i64 st, .slice A n c] (b := w.heap.size) rfl).alloc (.cells ⟨[.string kb, .string ks]⟩ 44)
  have K1 := Blk.at_ (w.alloc (.cells ⟨[.string nm, .int .i64 st, .slice A n c]⟩ 42)) 44 [.string kb, .string ks] (b := w.heap.size + 1) (by simp)
  go_in
  go_wp2_with fail
  obtain ⟨w0, hw0⟩ : ∃ u, u = ((w.alloc (.cells #[.string nm, .int .i64 st, .slice A n c] 42)).alloc (.cells #[.string kb, .string ks] 44)) := ⟨_, rfl⟩
  rw [← hw0] at b0 K0 K1 ⊢
  clear hw0
  refine (impl_goodFor hn (h.up b0) hz hs hnm hst hkb hks ht).mono ?_; rintro e w1 ⟨rfl, hb1⟩
  have hB1 := below_go b0 hb1
  rcases hf : goodF nm st l kb ks t
  · have e2 := Lib.hid hf
    have e1 := Lib.hid (tsV_f hf)
    go_wp2
    go_ret2
    rw [e1.out, e2.out]
    exact ⟨rfl, hB1⟩
  · obtain ⟨hk, hg⟩ := goodF_t hf
    obtain ⟨m, rfl⟩ : ∃ m : Nat, st = (m : Int) := ⟨st.toNat, by
      have := (goodM_t (goodK_t hk).1).2.1
      omega⟩
    have e2 := Lib.hid hf
    have e1 := Lib.hid (tsV_t hf)
    have L0 := K0.up hb1; have L1 := K1.up hb1
    have k0 := L0.cell 0; have k1 := L0.cell 1; have k2 := L0.cell 2; have q0 := L1.cell 0; have q1 := L1.cell 1
    simp only [List.getElem?_cons_zero, List.getElem?_cons_succ] at k0 k1 k2 q0 q1
    go_wp2_with fail
    refine (impl_touchSign hn (h.up hB1) hk hg).mono ?_; rintro e w2 ⟨rfl, hb2⟩
    go_wp2
    go_ret2
    rw [e1.out, e2.out]
    exact ⟨rfl, below_go hB1 hb2⟩
end Go.Proofs.Ytmdmnjjlpefigaa
