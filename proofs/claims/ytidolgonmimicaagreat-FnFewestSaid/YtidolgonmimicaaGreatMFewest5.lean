/- Texts 5 of 5 that the claim leans on: plain laws and the walks' contracts, in order. -/
import Derived.Test.YtidolgonmimicaaGreatMFewest4
import Derived.Shelf.Spec.SearchS
import Derived.Ground.Names2Prog
import Derived.Test.YtidolgonmimicaaGreatProg
import Derived.Shelf.Strings.OnBuilder
import Derived.Shelf.Strings.BuilderF
import Derived.Shelf.Strings.BuilderK
import Derived.Shelf.LaysM
import Derived.Shelf.Strings.Repeat
set_option linter.unusedVariables false
set_option linter.unusedSimpArgs false
namespace Go.Proofs.YtidolgonmimicaaGreat
open Go.ChangeShapes Go.WideShapes Go.ChangeAt Go.RowKit Go.Deep
end Go.Proofs.YtidolgonmimicaaGreat
namespace Go.Proofs.YtidolgonmimicaaGreat
open Go.ChangeShapes Go.WideShapes Go.ChangeAt Go.RowKit Go.Deep
open Go.Maps (Keyed string_keyed)
theorem setx_own {P : Program} {α : Type} {e : α → List Value} {s : Nat} {E k t : TypeId} {w : World} {base b n c : Nat} {A : Option Addr} {l : List α} {S : List ByteArray} (h : Owned e s E w base A n c l) (g : SetX P w k t b S) : some b ≠ (Value.slice A n c).ownBlock := fun e1 => by
 obtain ⟨D, m, ⟨es, clock, hb, _⟩, _⟩ := g
 rcases h.2.2.2 with ⟨hv, _⟩ | ⟨g, cap, cur, hv, _, hh, _⟩
 ·rw [hv] at e1; cases e1
 ·rw [hv] at e1
  injection e1 with e1
  dsimp only at e1
  subst e1
  rw [hb] at hh
  cases hh
theorem strs_map {P : Program} {k t : TypeId} {w w' : World} {b : Nat} {A : Option Addr} {l S : List ByteArray} (h : Strs w A l) (g : SetX P w k t b S) (hg : w.grownBy w' (some b)) : Strs w' A l := by
 obtain ⟨D, m, ⟨es, clock, hm, _⟩, _⟩ := g
 refine ⟨h.1, h.2.1, fun hn => ?_⟩
 obtain ⟨b', o', hA, hb, hc⟩ := h.2.2 hn
 subst hA
 have hne : b' ≠ b := by
  intro e
  subst e
  obtain ⟨u, hu⟩ : ∃ u, (l.flatMap strE)[0]? = some u := ⟨_, List.getElem?_eq_getElem (by rw [flatMap_len strE_len]; omega)⟩
  have := hc 0 u hu
  simp [World.cell?, hm] at this
 exact ⟨b', o', rfl, Nat.lt_of_lt_of_le hb hg.size, fun j u hu => (hg.cell_far ⟨b', o' + j, none⟩ hb (fun e => by injection e with e; exact hne e)).trans (hc j u hu)⟩
end Go.Proofs.YtidolgonmimicaaGreat
namespace Go.Proofs
open Go.Shelf
def Tryz.laysNm226_ren : Go.Shelf.Ren := ⟨fun | 26 => 206 | 33 => 232 | 34 => 233 | 38 => 255 | n => n, fun | 24 => 23 | 9 => 9 | 3 => 3 | 4 => 4 | 40 => 149 | 0 => 0 | n => n, fun | n => n⟩
theorem Tryz.laysNm226 : Go.Proofs.Lays2.n26 Tryz.prog Tryz.laysNm226_ren := {
 mixed := by kernel_rfl
 f26 := Tryz.func206.trans (congrArg some (by kernel_rfl))
 f33 := Tryz.func232.trans (congrArg some (by kernel_rfl))
 f34 := Tryz.func233.trans (congrArg some (by kernel_rfl))
 f38 := Tryz.func255.trans (congrArg some (by kernel_rfl))
 t0 := Tryz.underlying0
 a0 := Tryz.isAgg0
 z0 := Tryz.sizeOf0
 v0 := Tryz.zeroValue0
 t3 := Tryz.underlying3
 a3 := Tryz.isAgg3
 z3 := Tryz.sizeOf3
 v3 := Tryz.zeroValue3
 t4 := Tryz.underlying4
 a4 := Tryz.isAgg4
 z4 := Tryz.sizeOf4
 v4 := Tryz.zeroValue4
 t9 := Tryz.underlying9
 a9 := Tryz.isAgg9
 z9 := Tryz.sizeOf9
 v9 := Tryz.zeroValue9
 t24 := Tryz.underlying23
 a24 := Tryz.isAgg23
 z24 := Tryz.sizeOf23
 v24 := Tryz.zeroValue23
 t40 := Tryz.underlying149
 a40 := Tryz.isAgg149
 z40 := Tryz.sizeOf149
 v40 := Tryz.zeroValue149 }
theorem Tryz.slices_BinarySearch_string (b off n c : Nat) (Sx : Nat → ByteArray) (x : ByteArray) (w : World) (hbig : n < 4611686018427387904) (hc : ∀ j, j < n → w.cell? ⟨b, off + j, none⟩ = some (.string (Sx j))) :
  Calls Tryz.prog 206 #[.slice (some ⟨b, off, none⟩) n c, .string x] w fun e w' =>
   e = .returned (.tuple #[.int .i64 (Lib.bsGo (fun t => Op.bytesLess (Sx t).toList x.toList) n 0 n : Nat), .bool (decide (Lib.bsGo (fun t => Op.bytesLess (Sx t).toList x.toList) n 0 n < n ∧ Sx (Lib.bsGo (fun t => Op.bytesLess (Sx t).toList x.toList) n 0 n) = x))]) ∧ ∃ q, w' = w.drewN q := Any2.slices_BinarySearch_string Tryz.laysNm226 b off n c Sx x w hbig hc
theorem Tryz.slices_BinarySearch_string_empty (a : Option Addr) (c : Nat) (x : ByteArray) (w : World) :
  Calls Tryz.prog 206 #[.slice a 0 c, .string x] w fun e w' => e = .returned (.tuple #[.int .i64 0, .bool false]) ∧ w' = w := Any2.slices_BinarySearch_string_empty Tryz.laysNm226 a c x w
end Go.Proofs
namespace Go.Proofs.YtidolgonmimicaaGreat
open Go.ChangeShapes Go.WideShapes Go.ChangeAt Go.RowKit Go.Deep
open Go.Maps (Keyed string_keyed)
open Go.WideMaps (keyOf_string_mk)
def keysS (L : List ByteArray) : List Value := (L.map strV).reverse
end Go.Proofs.YtidolgonmimicaaGreat
namespace Go.Proofs.YtidolgonmimicaaGreat
open Go.ChangeShapes Go.WideShapes Go.ChangeAt Go.RowKit Go.Deep
theorem first_false (f : Nat → Bool) : ∀ n, f n = false → ∃ k, k ≤ n ∧ (∀ t, t < k → f t = true) ∧ f k = false
 | 0, h => ⟨0, Nat.le_refl _, fun t ht => absurd ht (by omega), h⟩
 | n + 1, h => by
  by_cases hb : ∃ k, k ≤ n ∧ f k = false
  ·obtain ⟨j, hj, hf⟩ := hb
   obtain ⟨k, hk, h1, h2⟩ := first_false (fun t => if t < j then f t else false) n (by simp [show ¬ n < j by omega])
   by_cases hkj : k < j
   ·refine ⟨k, by omega, fun t ht => ?_, by simpa [hkj] using h2⟩
    have := h1 t ht
    simpa [show t < j by omega] using this
   ·refine ⟨j, by omega, fun t ht => ?_, hf⟩
    have := h1 t (by omega)
    simpa [ht] using this
  ·refine ⟨n + 1, Nat.le_refl _, fun t ht => ?_, h⟩
   rcases hc : f t with _ | _
   ·exact absurd ⟨t, by omega, hc⟩ hb
   ·rfl
theorem srt_le {l : List ByteArray} (h : Srt l) {i j : Nat} {x y : ByteArray} (hij : i < j) (hx : l[i]? = some x) (hy : l[j]? = some y) : less y x = false := by
 obtain ⟨h1, e1⟩ := List.getElem?_eq_some_iff.1 hx
 obtain ⟨h2, e2⟩ := List.getElem?_eq_some_iff.1 hy
 have := (List.pairwise_iff_getElem.1 h) i j h1 h2 hij
 rw [e1, e2, leS] at this
 rcases hc : less y x with _ | _
 ·rfl
 ·rw [hc] at this; cases this
theorem search_in {l : List ByteArray} {s : ByteArray} (h : Srt l) : decide (Lib.bsGo (fun t => less (l.getD t s) s) l.length 0 l.length < l.length ∧ l.getD (Lib.bsGo (fun t => less (l.getD t s) s) l.length 0 l.length) s = s) = inL l s := by
 have hout : ∀ t, l.length ≤ t → less (l.getD t s) s = false := fun t ht => by rw [List.getD, List.getElem?_eq_none ht]; exact less_irr s
 obtain ⟨k, hk, h1, h2⟩ := first_false (fun t => less (l.getD t s) s) l.length (hout _ (Nat.le_refl _))
 have h3 : ∀ t, k ≤ t → less (l.getD t s) s = false := fun t ht => by
  rcases Nat.lt_or_ge t l.length with hl | hl
  ·rcases Nat.lt_or_ge k t with hkt | hkt
   ·rcases hc : less (l.getD t s) s with _ | _
    ·rfl
    ·have hy := List.getElem?_eq_getElem hl
     have hx := List.getElem?_eq_getElem (show k < l.length by omega)
     have hle := srt_le h hkt hx hy
     have e1 : l.getD k s = l[k] := by rw [List.getD, hx]; rfl
     have e2 : l.getD t s = l[t] := by rw [List.getD, hy]; rfl
     rw [e1] at h2
     rw [e2] at hc
     rcases less_tri l[k] l[t] with h4 | h4 | h4
     ·have := less_trans h4 hc
      rw [h2] at this; cases this
     ·rw [h4, hc] at h2; cases h2
     ·rw [hle] at h4; cases h4
   ·obtain rfl : t = k := by omega
    exact h2
  ·exact hout t hl
 rw [Lib.bsGo_spec _ k h1 h3 l.length 0 l.length (by omega) (by omega) hk]
 rw [Bool.eq_iff_iff, decide_eq_true_iff, inL_iff]
 constructor
 ·rintro ⟨hl, e⟩
  rw [List.getD, List.getElem?_eq_getElem hl] at e
  rw [← e]; exact List.getElem_mem hl
 ·intro hm
  obtain ⟨j, hj⟩ := List.getElem?_of_mem hm
  have hjl := (List.getElem?_eq_some_iff.1 hj).1
  have hkj : k ≤ j := by
   rcases Nat.lt_or_ge j k with hc | hc
   ·have := h1 j hc
    rw [List.getD, hj] at this
    have h5 : less s s = true := this
    rw [less_irr] at h5; cases h5
   ·exact hc
  refine ⟨by omega, ?_⟩
  rcases Nat.lt_or_ge k j with hc | hc
  ·have hx := List.getElem?_eq_getElem (show k < l.length by omega)
   have hle := srt_le h hc hx hj
   have e1 : l.getD k s = l[k] := by rw [List.getD, hx]; rfl
   rw [e1] at h2 ⊢
   rcases less_tri l[k] s with h4 | h4 | h4
   ·rw [h2] at h4; cases h4
   ·exact h4
   ·rw [hle] at h4; cases h4
  ·obtain rfl : j = k := by omega
   rw [List.getD, hj]; rfl
theorem search_strs {A : Option Addr} {N c : Nat} {l : List ByteArray} {s : ByteArray} {w : World} (hN : l.length = N) (h : Strs w A l) (hz : N ≤ 16777216) (hs : Srt l) :
  Calls Tryz.prog 206 #[.slice A N c, .string s] w fun e w' => ∃ i : Int, e = .returned (.tuple #[.int .i64 i, .bool (inL l s)]) ∧ ∃ q, w' = w.drewN q := by
 subst hN
 rcases Nat.eq_zero_or_pos l.length with h0 | h0
 ·have e := List.eq_nil_of_length_eq_zero h0
  subst e
  refine (Tryz.slices_BinarySearch_string_empty A c s w).mono ?_
  rintro e w' ⟨rfl, rfl⟩
  exact ⟨0, rfl, 0, rfl⟩
 ·obtain ⟨b, o, y, rfl, _, _, _⟩ := h.at_str h0
  refine (Tryz.slices_BinarySearch_string b o l.length c (fun t => l.getD t s) s w (by omega) (fun j hj => ?_)).mono ?_
  ·obtain ⟨b2, o2, x, e, _, hx, hcx⟩ := h.at_str hj
   injection e with e
   injection e with e1 e2
   subst e1 e2
   rw [hcx, List.getD, hx]; rfl
  ·rintro e w' ⟨rfl, hq⟩
   have hin := search_in (s := s) hs
   rw [← hin]
   exact ⟨_, rfl, hq⟩
theorem impl_has {A : Option Addr} {N c : Nat} {l : List ByteArray} {s : ByteArray} {w : World} (hN : l.length = N) (h : Strs w A l) (hz : N ≤ 16777216) (hs : Srt l) :
  Calls Tryz.prog 146 #[.slice A N c, .string s] w fun e w' => e = .returned (.bool (inL l s)) ∧ Below w.heap.size w w' := by
 go_in
 go_wp2_with fail
 refine (search_strs hN h hz hs).mono ?_; rintro e w1 ⟨i, rfl, q, rfl⟩
 go_wp2
 go_ret
 exact ⟨rfl, by (repeat' (first | (with_reducible exact Below.refl _ _) | (with_reducible assumption) | (with_reducible refine below_drewN ?_ _) | (with_reducible refine Below.drew ?_) | (with_reducible refine below_alloc ?_ _) | (with_reducible refine Below.alloc ?_ ?_ _) | (with_reducible refine Below.setCell ?_ ?_ _) | (with_reducible refine below_go ?_ (by with_reducible assumption)) | (with_reducible refine below_then (by with_reducible assumption) ?_ ?_) | go_size))⟩
end Go.Proofs.YtidolgonmimicaaGreat
namespace Go.Proofs.YtidolgonmimicaaGreat
open Go.ChangeShapes Go.WideShapes Go.ChangeAt Go.RowKit Go.Deep
open Go.Maps (Keyed string_keyed)
def rowB (st : Nat) (s : ByteArray) : Bool := goodRow s && (s.size == st)
theorem rpB_i (nm : ByteArray) (st : Nat) (l : List ByteArray) (kb ks a b : ByteArray) : rpB nm st l kb ks a b = (l15B nm st l && (goodK nm (st : Int) l kb ks && (rowB st a && (rowB st b && !decide (a = b))))) := by
 have h : (twoB a b && (decide (a.size = st) && !decide (a = b))) = (rowB st a && (rowB st b && !decide (a = b))) := by
  rw [Bool.eq_iff_iff]
  simp only [twoB, rowB, Bool.and_eq_true, decide_eq_true_iff, beq_iff_eq]
  constructor
  ·rintro ⟨⟨h1, h2, h3⟩, h4, h5⟩
   exact ⟨⟨h1, h4⟩, ⟨h2, by omega⟩, h5⟩
  ·rintro ⟨⟨h1, h4⟩, ⟨h2, h6⟩, h5⟩
   exact ⟨⟨h1, h2, by omega⟩, h4, h5⟩
 rw [rpB, h]
theorem impl_isLarge {A : Option Addr} {n c st : Nat} {nm : ByteArray} {l : List ByteArray} {w : World} (hn : l.length = n) (h : Strs w A l) (hz : n ≤ 1048576) (hs : ∀ s ∈ l, s.size ≤ 16777216) (hnm : nm.size ≤ 16777216) (h9 : st ≤ 1000) :
  Calls Tryz.prog 196 #[.agg #[.string nm, .int .i64 st, .slice A n c]] w fun e w' => e = .returned (.bool (l15B nm st l)) ∧ Below w.heap.size w w' := by
 have HQ : Hid (l15B nm st l = (goodM nm (st : Int) l && decide (4 ≤ st))) := Lib.hid rfl
 have b0 : Below w.heap.size w (w.alloc (.cells ⟨[.string nm, .int .i64 st, .slice A n c]⟩ 25)) := by (repeat' (first | (with_reducible exact Below.refl _ _) | (with_reducible assumption) | (with_reducible refine below_drewN ?_ _) | (with_reducible refine Below.drew ?_) | (with_reducible refine below_alloc ?_ _) | (with_reducible refine Below.alloc ?_ ?_ _) | (with_reducible refine Below.setCell ?_ ?_ _) | (with_reducible refine below_go ?_ (by with_reducible assumption)) | (with_reducible refine below_then (by with_reducible assumption) ?_ ?_) | go_size))
 have K0 := Blk.at_ w 25 [.string nm, .int .i64 st, .slice A n c] (b := w.heap.size) rfl
 have k0 := K0.cell 0; have k1 := K0.cell 1; have k2 := K0.cell 2
 simp only [List.getElem?_cons_zero, List.getElem?_cons_succ] at k0 k1 k2
 have hst := st_i64 h9
 go_in
 go_wp2_with fail
 clear k0 k1 k2
 refine (impl_GoodMethod (nm := nm) hn (h.up b0) hz hs hnm hst).mono ?_; rintro e w1 ⟨rfl, hb1⟩
 rcases hg : goodM nm (st : Int) l
 ·have E := Lib.hid (show l15B nm st l = false by rw [HQ.out, hg]; rfl)
  clear hg
  go_wp2
  go_ret
  rw [E.out]
  exact ⟨rfl, below_go b0 hb1⟩
 ·have E := Lib.hid (show l15B nm st l = decide (4 ≤ st) by rw [HQ.out, hg]; rfl)
  have k1 := (K0.up hb1).cell 1
  simp only [List.getElem?_cons_zero, List.getElem?_cons_succ] at k1
  clear hg
  by_cases h4 : 4 ≤ st
  ·have E2 := Lib.hid (show l15B nm st l = true by rw [E.out, decide_eq_true h4])
   have hI : decide ((4 : Int) ≤ (st : Int)) = true := decide_eq_true (by omega)
   clear h4
   go_wp2
   go_ret
   rw [E2.out]
   exact ⟨rfl, below_go b0 hb1⟩
  ·have E2 := Lib.hid (show l15B nm st l = false by rw [E.out, decide_eq_false h4])
   have hI : decide ((4 : Int) ≤ (st : Int)) = false := decide_eq_false (by omega)
   clear h4
   go_wp2
   go_ret
   rw [E2.out]
   exact ⟨rfl, below_go b0 hb1⟩
set_option maxHeartbeats 2000000 in
set_option maxRecDepth 100000 in
theorem impl_goodRepair {A : Option Addr} {n c st : Nat} {nm : ByteArray} {l : List ByteArray} {kb ks a b : ByteArray} {w : World} (hn : l.length = n) (h : Strs w A l) (hz : n ≤ 1048576) (hs : ∀ s ∈ l, s.size ≤ 16777216) (hnm : nm.size ≤ 16777216) (h9 : st ≤ 1000) (hkb : kb.size ≤ 16777216) (hks : ks.size ≤ 16777216) (ha : a.size ≤ 16777216) (hb : b.size ≤ 16777216) :
  Calls Tryz.prog 120 #[.agg #[.string nm, .int .i64 st, .slice A n c], .agg #[.string kb, .string ks], .string a, .string b] w fun e w' => e = .returned (.bool (rpB nm st l kb ks a b)) ∧ Below w.heap.size w w' := by
 have HQ := Lib.hid (rpB_i nm st l kb ks a b)
 have HRA : Hid (rowB st a = (goodRow a && (a.size == st))) := Lib.hid rfl
 have HRB : Hid (rowB st b = (goodRow b && (b.size == st))) := Lib.hid rfl
 have b0 : Below w.heap.size w ((w.alloc (.cells ⟨[.string nm, .int .i64 st, .slice A n c]⟩ 25)).alloc (.cells ⟨[.string kb, .string ks]⟩ 27)) := by (repeat' (first | (with_reducible exact Below.refl _ _) | (with_reducible assumption) | (with_reducible refine below_drewN ?_ _) | (with_reducible refine Below.drew ?_) | (with_reducible refine below_alloc ?_ _) | (with_reducible refine Below.alloc ?_ ?_ _) | (with_reducible refine Below.setCell ?_ ?_ _) | (with_reducible refine below_go ?_ (by with_reducible assumption)) | (with_reducible refine below_then (by with_reducible assumption) ?_ ?_) | go_size))
 have K0 := (Blk.at_ w 25 [.string nm, .int .i64 st, .slice A n c] (b := w.heap.size) rfl).alloc (.cells ⟨[.string kb, .string ks]⟩ 27)
 have K1 := Blk.at_ (w.alloc (.cells ⟨[.string nm, .int .i64 st, .slice A n c]⟩ 25)) 27 [.string kb, .string ks] (b := w.heap.size + 1) (by simp)
 have H0 := h.up b0
 clear h
 go_in
 go_upto_region 1 with fail
 obtain ⟨w0, hw0⟩ : ∃ u, u = ((w.alloc (.cells #[.string nm, .int .i64 st, .slice A n c] 25)).alloc (.cells #[.string kb, .string ks] 27)) := ⟨_, rfl⟩
 rw [← hw0] at b0 K0 K1 H0 ⊢
 clear hw0
 have k0 := K0.cell 0; have k1 := K0.cell 1; have k2 := K0.cell 2
 simp only [List.getElem?_cons_zero, List.getElem?_cons_succ] at k0 k1 k2
 go_wp2_with fail
 clear k0 k1 k2
 refine (impl_isLarge (nm := nm) hn H0 hz hs hnm h9).mono ?_; rintro e w1 ⟨rfl, hb1⟩
 have B1 := below_go b0 hb1
 replace K0 := K0.up hb1
 replace K1 := K1.up hb1
 have H1 := H0.up hb1
 clear H0 hb1 b0
 rcases hg : l15B nm st l
 ·have E := Lib.hid (show rpB nm st l kb ks a b = false by rw [HQ.out, hg]; rfl)
  clear hg
  go_wp2
  go_ret
  rw [E.out]
  exact ⟨rfl, B1⟩
 ·have E1 := Lib.hid (show rpB nm st l kb ks a b = (goodK nm (st : Int) l kb ks && (rowB st a && (rowB st b && !decide (a = b)))) by rw [HQ.out, hg]; rfl)
  have k0 := K0.cell 0; have k1 := K0.cell 1; have k2 := K0.cell 2; have j0 := K1.cell 0; have j1 := K1.cell 1
  simp only [List.getElem?_cons_zero, List.getElem?_cons_succ] at k0 k1 k2 j0 j1
  have hst := st_i64 h9
  clear hg
  go_wp2_with fail
  clear k0 k1 k2 j0 j1
  refine (impl_GoodCalls (nm := nm) hn H1 hz hs hnm hst hkb hks).mono ?_; rintro e w2 ⟨rfl, hb2⟩
  have B2 := below_go B1 hb2
  replace K0 := K0.up hb2
  clear hst hb2 B1
  rcases hg : goodK nm (st : Int) l kb ks
  ·have E := Lib.hid (show rpB nm st l kb ks a b = false by rw [E1.out, hg]; rfl)
   clear hg
   go_wp2
   go_ret
   rw [E.out]
   exact ⟨rfl, B2⟩
  ·have E2 := Lib.hid (show rpB nm st l kb ks a b = (rowB st a && (rowB st b && !decide (a = b))) by rw [E1.out, hg]; rfl)
   have k1 := K0.cell 1
   simp only [List.getElem?_cons_zero, List.getElem?_cons_succ] at k1
   clear hg
   go_wp2_with fail
   refine (impl_isRowOf (n := st) ha).mono ?_; rw [← HRA.out]; rintro e w' ⟨rfl, rfl⟩
   rcases hg : rowB st a
   ·have E := Lib.hid (show rpB nm st l kb ks a b = false by rw [E2.out, hg]; rfl)
    clear hg
    go_wp2
    go_ret
    rw [E.out]
    exact ⟨rfl, B2⟩
   ·have E3 := Lib.hid (show rpB nm st l kb ks a b = (rowB st b && !decide (a = b)) by rw [E2.out, hg]; rfl)
    clear hg
    go_wp2_with fail
    refine (impl_isRowOf (n := st) hb).mono ?_; rw [← HRB.out]; rintro e w' ⟨rfl, rfl⟩
    rcases hg : rowB st b
    ·have E := Lib.hid (show rpB nm st l kb ks a b = false by rw [E3.out, hg]; rfl)
     clear hg
     go_wp2
     go_ret
     rw [E.out]
     exact ⟨rfl, B2⟩
    ·have E4 := Lib.hid (show rpB nm st l kb ks a b = !decide (a = b) by rw [E3.out, hg]; rfl)
     clear hg
     by_cases hab : a = b
     ·have E5 := Lib.hid (show rpB nm st l kb ks a b = false by rw [E4.out, decide_eq_true hab]; rfl)
      have hbe : (a.toList == b.toList) = true := by rw [hab]; simp
      clear hab
      go_wp2
      go_ret
      rw [E5.out]
      exact ⟨rfl, B2⟩
     ·have E5 := Lib.hid (show rpB nm st l kb ks a b = true by rw [E4.out, decide_eq_false hab]; rfl)
      have hbe := bytes_ne hab
      clear hab
      go_wp2
      go_ret
      rw [E5.out]
      exact ⟨rfl, B2⟩
def NxP (S P N : List ByteArray) : Prop := N.Nodup ∧ ∀ x, x ∈ N ↔ (x ∈ P ∧ x ∉ S)
theorem NxP.nil (S : List ByteArray) : NxP S [] [] := ⟨List.nodup_nil, fun x => by simp⟩
theorem NxP.skip {S P N : List ByteArray} {x : ByteArray} (h : NxP S P N) (hx : inL (S ++ N) x = true) : NxP S (P ++ [x]) N := ⟨h.1, fun y => by
 have hx := inL_iff.1 hx
 rw [h.2, List.mem_append, List.mem_singleton]
 constructor
 ·rintro ⟨h1, h2⟩
  exact ⟨Or.inl h1, h2⟩
 ·rintro ⟨h1 | rfl, h2⟩
  ·exact ⟨h1, h2⟩
  ·rcases List.mem_append.1 hx with q | q
   ·exact absurd q h2
   ·exact (h.2 _).1 q⟩
theorem NxP.add {S P N : List ByteArray} {x : ByteArray} (h : NxP S P N) (hx : inL (S ++ N) x = false) : NxP S (P ++ [x]) (N ++ [x]) := by
 have hx : x ∉ S ++ N := fun q => by rw [inL_iff.2 q] at hx; cases hx
 rw [List.mem_append, not_or] at hx
 refine ⟨List.nodup_append.2 ⟨h.1, List.nodup_cons.2 ⟨by simp, List.nodup_nil⟩, fun a ha b hb => by rw [List.mem_singleton.1 hb]; rintro rfl; exact hx.2 ha⟩, fun y => ?_⟩
 rw [List.mem_append, List.mem_singleton, List.mem_append, List.mem_singleton, h.2]
 constructor
 ·rintro (⟨h1, h2⟩ | rfl)
  ·exact ⟨Or.inl h1, h2⟩
  ·exact ⟨Or.inr rfl, hx.1⟩
 ·rintro ⟨h1 | rfl, h2⟩
  ·exact Or.inl ⟨h1, h2⟩
  ·exact Or.inr rfl
theorem nx_set {H : Cl → ByteArray} {ls : List (List ByteArray)} {L S N T : List ByteArray} (h : NxP S (prodS H L) N) (hS : ∀ x, x ∈ S ↔ ∃ Y ∈ ls, x ∈ Y) (hs : Srt T) (hp : T.Perm N) : T = nextF H ls L := by
 refine IsSet.uniq (p := NextP H ls L) ⟨hs, hp.nodup_iff.2 h.1, fun x => ?_⟩ (nextF_set H ls L)
 rw [hp.mem_iff, h.2, prodS_mem, hS, NextP]
 refine and_congr Iff.rfl ⟨fun q Y hY hx => q ⟨Y, hY, hx⟩, fun q ⟨Y, hY, hx⟩ => q Y hY hx⟩
theorem lit3h {H : Cl → ByteArray} {j : Nat} (hj : j < 3) : ∃ c : Cl, [H 1, H 0, H 2][j]? = some (H c) ∧ ∀ r : ByteArray, (hd3 H r).take (j + 1) = (hd3 H r).take j ++ [timesS r (H c)] := by
 rcases j with _ | _ | _ | j
 ·exact ⟨1, rfl, fun r => rfl⟩
 ·exact ⟨0, rfl, fun r => rfl⟩
 ·exact ⟨2, rfl, fun r => rfl⟩
 ·omega
set_option maxHeartbeats 4000000 in
set_option maxRecDepth 100000 in
theorem impl_nextLayer {AH AL : Option Addr} {cH mL dL b st : Nat} {L S : List ByteArray} {H : Cl → ByteArray} {ls : List (List ByteArray)} {w : World} (hH : Strs w AH [H 1, H 0, H 2]) (hHr : ∀ c, RowN st (H c)) (hL : L.length = mL) (hLs : Strs w AL L) (hrow : ∀ x ∈ L, RowN st x) (hz : mL ≤ 5000) (hS : SetX Tryz.prog w 9 4 b S) (hSl : S.length ≤ 100000) (hSm : ∀ x, x ∈ S ↔ ∃ Y ∈ ls, x ∈ Y) :
  Calls Tryz.prog 145 #[.slice AH 3 cH, .slice AL mL dL, .map (some b)] w fun e w' => ∃ g m c' S', e = .returned (.slice (some ⟨g, 0, none⟩) m c') ∧ Owned strE 1 9 w' w.heap.size (some ⟨g, 0, none⟩) m c' (nextF H ls L) ∧ SetX Tryz.prog w' 9 4 b S' ∧ (∀ x, x ∈ S' ↔ x ∈ S ∨ x ∈ nextF H ls L) ∧ S'.length = S.length + m ∧ w.grownBy w' (some b) := by
 have KS := string_keyed (P := Tryz.prog) (k := 9) Tryz.underlying9
 have HH := Lib.hid hH
 have HC := Lib.hid hHr
 have HLl := Lib.hid hL
 have HLS := Lib.hid hLs
 have HR := Lib.hid hrow
 have HS := Lib.hid hS
 have HSM := Lib.hid hSm
 clear hH hHr hL hLs hrow hS hSm
 go_in
 go_wp2
 obtain ⟨w0, hw0⟩ : ∃ u, u = w.alloc (.cells #[] 9) := ⟨_, rfl⟩
 have O0 : Owned strE 1 9 w0 w.heap.size (some ⟨w.heap.size, 0, none⟩) 0 0 ([] : List ByteArray) := by rw [hw0]; exact Owned.empty strE_len _ w (Nat.le_refl _)
 have g0 : w.grownBy w0 (some b) := by rw [hw0]; exact World.grownBy_alloc _ _ _
 have M0 : SetX Tryz.prog w0 9 4 b S := by rw [hw0]; exact HS.out.alloc _
 rw [← hw0]
 have HO0 := Lib.hid O0
 have HG0 := Lib.hid g0
 have HM0 := Lib.hid M0
 clear hw0 O0 g0 M0
 go_loopw [7, 16] (fun v i wr => ∃ (k m g c' : Nat) (N : List ByteArray), k ≤ mL ∧ i = .int .i64 k ∧ v = .slice (some ⟨g, 0, none⟩) m c' ∧ m ≤ 3 * k ∧ Hid (Owned strE 1 9 wr w.heap.size (some ⟨g, 0, none⟩) m c' N) ∧ Hid (NxP S (prodS H (L.take k)) N) ∧ Hid (SetX Tryz.prog wr 9 4 b (S ++ N)) ∧ Hid (w.grownBy wr (some b))) (fun _ i _ => mL - (intOf i).toNat)
 case atStart => exact ⟨0, 0, _, _, [], Nat.zero_le _, rfl, rfl, Nat.le_refl _, HO0, Lib.hid (NxP.nil S), Lib.hid (by rw [List.append_nil]; exact HM0.out), HG0⟩
 case round =>
  obtain ⟨k, m, g, c3, N, hk, rfl, rfl, hm, HO, HN, HM, HG⟩ := hrel
  rename World => wo
  by_cases hlt : k < mL
  ·obtain ⟨b1, o1, r, hAL, _, hr, hcr⟩ := (strs_map HLS.out HS.out HG.out).at_str (k := k) (by rw [HLl.out]; exact hlt)
   subst hAL
   have hrN := Lib.hid (HR.out r (List.mem_of_getElem? hr))
   have HPS := Lib.hid (prodS_succ (H := H) hr)
   have hI : (k : Int) < (mL : Int) := by omega
   have hrz : r.size ≤ 16777216 := by have := hrN.out.2; have := hrN.out.st; omega
   clear hr
   go_wp2
   go_loopw [7, 22] (fun v i wr => ∃ (j m g c' : Nat) (N : List ByteArray), j ≤ 3 ∧ i = .int .i64 j ∧ v = .slice (some ⟨g, 0, none⟩) m c' ∧ m ≤ 3 * k + j ∧ Hid (Owned strE 1 9 wr w.heap.size (some ⟨g, 0, none⟩) m c' N) ∧ Hid (NxP S (prodS H (L.take k) ++ (hd3 H r).take j) N) ∧ Hid (SetX Tryz.prog wr 9 4 b (S ++ N)) ∧ Hid (w.grownBy wr (some b))) (fun _ i _ => 3 - (intOf i).toNat)
   case atStart => exact ⟨0, m, g, c3, N, by omega, rfl, rfl, by omega, HO, Lib.hid (by rw [List.take_zero, List.append_nil]; exact HN.out), HM, HG⟩
   case round =>
    obtain ⟨j, m, g, c4, N, hj, rfl, rfl, hm, HO, HN, HM, HG⟩ := hrel
    rename World => wq
    by_cases hjt : j < 3
    ·obtain ⟨b3, o3, x, hAH, _, hx, hcx⟩ := (strs_map HH.out HS.out HG.out).at_str (k := j) (by exact hjt)
     subst hAH
     obtain ⟨cl, hcl, hht⟩ := lit3h (H := H) hjt
     rw [hcl] at hx
     injection hx with hx
     subst hx
     have HHT := Lib.hid (hht r)
     have hJ : (j : Int) < 3 := by omega
     have hcN := Lib.hid (HC.out cl)
     have hft := Lib.hid (rowN_fits hrN.out hcN.out)
     have hcz : (H cl).size ≤ 16777216 := by have := hcN.out.2; have := hcN.out.st; omega
     have hzz : (timesS r (H cl)).size ≤ 16777216 := by have := (hrN.out.times hcN.out).2; have := hrN.out.2; omega
     have HNl := Lib.hid HO.out.len
     clear hcl hht
     go_wp2_with fail
     refine (impl_times hrz hcz hft.out).mono ?_; rintro e w5 ⟨rfl, hb5⟩
     clear hcx
     have HO5 := Lib.hid (HO.out.up hb5)
     have HM5 := Lib.hid (HM.out.up hb5)
     have HG5 := Lib.hid (grownBy_trans HG.out (grown_any hb5 _))
     obtain ⟨z, hz2⟩ : ∃ u, u = timesS r (H cl) := ⟨_, rfl⟩
     rw [← hz2] at HHT hzz ⊢
     clear hz2 hb5
     have lk := HM5.out.look (t := 110) KS Tryz.underlying110 Tryz.underlying9 Tryz.underlying4 (by kernel_rfl) hzz
     have hlen : (S ++ N).length ≤ 16777216 := by rw [List.length_append, HNl.out]; omega
     have HLEN := Lib.hid hlen
     clear hlen
     rcases hin : inL (S ++ N) z
     ·have HN2 := Lib.hid (HN.out.add hin)
      rw [hin] at lk
      clear hin
      go_upto_region 11 with (first | (at_mapUpdate; go_must ((refine wpList_setx_add rfl (.tmp 33) (.tmp 34) (.const (.bool true)) 110 rfl KS Tryz.underlying110 Tryz.underlying9 Tryz.underlying4 rfl HM5.out HLEN.out rfl rfl hzz ?_; intro w8 hm8 hg8; clear lk; have HM8 := Lib.hid hm8; have HO8 := Lib.hid (HO5.out.kept hg8 (fun k hk e => setx_own HO5.out HM5.out (e.trans hk.symm))); have HG8 := Lib.hid (grownBy_trans HG5.out hg8); have hsz8 := HG8.out.size; clear hm8 hg8))))
      go_wp2_with (first | (at_builtin; go_must ((refine wpList_append_recs Tryz.elStr strE_one rfl (.tmp 35) (.tmp 37) rfl rfl (HO8.out.alloc _) rfl (own_lit1_at' strE_len _ 9 z rfl (Nat.le_refl _)).recs rfl ?_ (by decide) ?_ ?_; (focus (first | omega | (simp only [World.size_alloc]; done) | (simp only [World.size_alloc]; omega) | (simp; done) | (simp; omega))); (focus (first | omega | (simp only [World.size_alloc]; done) | (simp only [World.size_alloc]; omega) | (simp; done) | (simp; omega))); intro A6 c6 w6 ho6 hg6 hl6; obtain ⟨g6, rfl, _⟩ := ho6.at_ (by omega); have HO6 := Lib.hid ho6; have HGX := Lib.hid hg6; clear ho6 hg6 hl6))))
      have HO8A := Lib.hid (HO8.out.alloc (.cells ⟨strE z⟩ 9))
      have HM8A := Lib.hid (HM8.out.alloc (.cells ⟨strE z⟩ 9))
      have HM6 := Lib.hid (HM8A.out.kept HGX.out (setx_own HO8A.out HM8A.out))
      have HG6 := Lib.hid (grow_own (grownBy_trans HG8.out (World.grownBy_alloc w8 (.cells ⟨strE z⟩ 9) _)) HGX.out (fun k hk => (HO8A.out.blk hk).1))
      go_roundw
      case rel => exact ⟨j + 1, m + 1, g6, c6, N ++ [z], by omega, by go_num, rfl, by omega, HO6, Lib.hid (by rw [HHT.out, ← List.append_assoc]; exact HN2.out), Lib.hid (by rw [← List.append_assoc]; exact HM6.out), HG6⟩
      case measure => simp [intOf]; omega
     ·have HN2 := Lib.hid (HN.out.skip hin)
      rw [hin] at lk
      clear hin
      go_wp2
      go_roundw
      case rel => exact ⟨j + 1, m, g, c4, N, by omega, by go_num, rfl, by omega, HO5, Lib.hid (by rw [HHT.out, ← List.append_assoc]; exact HN2.out), HM5, HG5⟩
      case measure => simp [intOf]; omega
    ·obtain rfl : j = 3 := by omega
     have hJ : ¬ ((3 : Nat) : Int) < 3 := by omega
     go_wp2
     go_roundw
     case rel => exact ⟨k + 1, m, g, c4, N, by omega, by go_num, rfl, by omega, HO, Lib.hid (by rw [HPS.out]; exact HN.out), HM, HG⟩
     case measure => simp [intOf]; omega
  ·obtain rfl : k = mL := by omega
   have hI : ¬ (k : Int) < (k : Int) := by omega
   have HPA : Hid (L.take k = L) := Lib.hid (List.take_of_length_le (by rw [HLl.out]; exact Nat.le_refl _))
   have HN3 : Hid (NxP S (prodS H L) N) := Lib.hid (by have := HN.out; rwa [HPA.out] at this)
   clear HPA HN
   go_wp2_with fail
   refine (sort_strs HO.out (by omega)).mono ?_; rintro e w4 ⟨rfl, T, ho4, hp4, hs4, hg4⟩
   have HE := Lib.hid (nx_set HN3.out HSM.out hs4 hp4)
   have HNM : Hid (∀ x, x ∈ T ↔ x ∈ N) := Lib.hid (fun x => hp4.mem_iff)
   have HTl : Hid (T.length = m) := Lib.hid ho4.len
   have HNl : Hid (N.length = m) := Lib.hid HO.out.len
   have hob := HO.out.at_own
   have HM4 := Lib.hid (HM.out.kept hg4 (setx_own HO.out HM.out))
   have HG4 := Lib.hid (grow_own HG.out hg4 (fun k hk => (HO.out.blk hk).1))
   go_wp2
   go_ret
   exact ⟨g, m, c3, S ++ N, rfl, by rw [← HE.out]; exact ho4, HM4.out, fun x => by rw [← HE.out, List.mem_append, HNM.out], by rw [List.length_append, HNl.out], HG4.out⟩
end Go.Proofs.YtidolgonmimicaaGreat
namespace Go.Proofs.YtidolgonmimicaaGreat
open Go.ChangeShapes Go.WideShapes Go.ChangeAt Go.RowKit Go.Deep
open Go.Maps (Keyed string_keyed)
theorem wpList_setx_ins {P : Program} {ops : Array Oper} {rest : List Oper} {o : Oper} {a : Act} {Q : Exit → Act → World → Prop} {W : World} {k e : TypeId} {b : Nat} {S : List ByteArray} (hgd : o.guard = none) (M X V : Operand) (t : TypeId) (hop : o.op = Op.insert t M X V) (K : Keyed P k) (ht : P.underlying t = some (.map k e)) (hk : P.underlying k = some .string) (he : P.underlying e = some .bool) (hm : a.eval M = .map (some b)) (h : SetX P W k e b S) (hn : S.length ≤ 16777216) {s : ByteArray} (hx : a.eval X = .string s) (hv : a.eval V = .bool true) (hs : s.size ≤ 16777216)
  (hK : ∀ w', SetX P w' k e b (S ++ [s]) → W.grownBy w' (some b) → wpList P ops Q rest (a.put o.dst undef) w') : wpList P ops Q (o :: rest) a W :=
 wpList_plain hgd fun K' hK' => by
  obtain ⟨w', hrun, r1, r2⟩ := h.add K ht hk he hn hs
  unfold Oper.wp
  simp [execOp, hop, hm, hx, hv, hrun, Result.andThen]
  exact hK' _ _ (hK w' r1 r2)
theorem Owned.map_ {P : Program} {α : Type} {e : α → List Value} {s : Nat} {E k t : TypeId} {w w' : World} {base b n c : Nat} {A : Option Addr} {l : List α} {S : List ByteArray} (h : Owned e s E w base A n c l) (g : SetX P w k t b S) (hg : w.grownBy w' (some b)) : Owned e s E w' base A n c l :=
 h.kept hg (fun z hz q => setx_own h g (q.trans hz.symm))
theorem TabT.map_ {P : Program} {k t : TypeId} {w w' : World} {base b n c : Nat} {A : Option Addr} {vs : List Hd} {M : List (List ByteArray)} {S : List ByteArray} (h : TabT w base A n c vs M) (g : SetX P w k t b S) (hg : w.grownBy w' (some b)) : TabT w' base A n c vs M :=
 ⟨h.top.map_ g hg, h.len, fun k v r hv hr => (h.row k v r hv hr).map_ g hg⟩
theorem hds3_cl (st : Nat) (l : List ByteArray) (kb ks : ByteArray) : hds3 st l kb ks = [clH st l kb ks 1, clH st l kb ks 0, clH st l kb ks 2] := rfl
set_option maxHeartbeats 4000000 in
set_option maxRecDepth 100000 in
theorem impl_repairLayers {A : Option Addr} {n c st : Nat} {nm : ByteArray} {l : List ByteArray} {kb ks : ByteArray} {a tg : ByteArray} {w : World} (hn : l.length = n) (h : Strs w A l) (hk : goodK nm (st : Int) l kb ks = true) (ha : RowN st a) :
  Calls Tryz.prog 121 #[.agg #[.string nm, .int .i64 st, .slice A n c], .agg #[.string kb, .string ks], .string a, .string tg] w fun e w' => ∃ A' m c' vs, e = .returned (.tuple #[.slice A' m c', .bool (layR (clH st l kb ks) a tg).isSome]) ∧ TabT w' w.heap.size A' m c' vs ((layR (clH st l kb ks) a tg).getD []) ∧ Below w.heap.size w w' := by
 have KS := string_keyed (P := Tryz.prog) (k := 9) Tryz.underlying9
 have hmm := @run_makeMap Tryz.prog
 have b0 : Below w.heap.size w ((w.alloc (.cells ⟨[.string nm, .int .i64 st, .slice A n c]⟩ 25)).alloc (.cells ⟨[.string kb, .string ks]⟩ 27)) := by (repeat' (first | (with_reducible exact Below.refl _ _) | (with_reducible assumption) | (with_reducible refine below_drewN ?_ _) | (with_reducible refine Below.drew ?_) | (with_reducible refine below_alloc ?_ _) | (with_reducible refine Below.alloc ?_ ?_ _) | (with_reducible refine Below.setCell ?_ ?_ _) | (with_reducible refine below_go ?_ (by with_reducible assumption)) | (with_reducible refine below_then (by with_reducible assumption) ?_ ?_) | go_size))
 have K0 := (Blk.at_ w 25 [.string nm, .int .i64 st, .slice A n c] (b := w.heap.size) rfl).alloc (.cells ⟨[.string kb, .string ks]⟩ 27)
 have K1 := Blk.at_ (w.alloc (.cells ⟨[.string nm, .int .i64 st, .slice A n c]⟩ 25)) 27 [.string kb, .string ks] (b := w.heap.size + 1) (by simp)
 have h8 := (goodK_all hk).1
 have H0 := h.up b0
 have HC := Lib.hid (clH_row h8.1 h8.2 l kb ks)
 have HD3 := Lib.hid (hds3_cl st l kb ks)
 obtain ⟨H, hH⟩ : ∃ u, u = clH st l kb ks := ⟨_, rfl⟩
 rw [← hH] at HC HD3 ⊢
 have HA := Lib.hid ha
 have haz : a.size ≤ 16777216 := by have := ha.2; have := ha.st; omega
 have HLY : Hid (layR H a tg = layF H tg 8 [[a]]) := Lib.hid rfl
 have HLM : Hid (∀ k ls, ¬ manyL ls ≤ 800 → layF H tg k ls = none) := Lib.hid (fun k ls h => layF_many h)
 have HLH : Hid (∀ k ls, manyL ls ≤ 800 → inL (nextF H ls (lastL ls)) tg = true → layF H tg (k + 1) ls = some (ls ++ [nextF H ls (lastL ls)])) := Lib.hid (fun k ls h g => layF_has h g)
 have HLG : Hid (∀ k ls, manyL ls ≤ 800 → inL (nextF H ls (lastL ls)) tg = false → layF H tg (k + 1) ls = layF H tg k (ls ++ [nextF H ls (lastL ls)])) := Lib.hid (fun k ls h g => layF_go h g)
 have HL0 : Hid (∀ ls, layF H tg 0 ls = none) := Lib.hid (fun ls => rfl)
 clear h hH ha
 go_in
 go_upto_region 1 with fail
 obtain ⟨w0, hw0⟩ : ∃ u, u = ((w.alloc (.cells #[.string nm, .int .i64 st, .slice A n c] 25)).alloc (.cells #[.string kb, .string ks] 27)) := ⟨_, rfl⟩
 rw [← hw0] at b0 K0 K1 H0 ⊢
 clear hw0
 have k0 := K0.cell 0; have k1 := K0.cell 1; have k2 := K0.cell 2; have j0 := K1.cell 0; have j1 := K1.cell 1
 simp only [List.getElem?_cons_zero, List.getElem?_cons_succ] at k0 k1 k2 j0 j1
 go_wp2_with fail
 clear k0 k1 k2 j0 j1 K0 K1
 refine (impl_callHeads (nm := nm) hn H0 hk).mono ?_; rintro e w1 ⟨A1, c1, rfl, ho1, hb1⟩
 rw [HD3.out] at ho1
 have HB1 := Lib.hid (below_go b0 hb1)
 have HO1 := Lib.hid (ho1.base_le b0.size)
 clear ho1 hb1 b0 H0 hk hn
 have hsz1 := HB1.out.size
 have M1 : SetX Tryz.prog (w1.alloc (.map #[] 0)) 9 4 w1.heap.size [] := SetX.made _ _ _ _
 have HM1 := Lib.hid M1
 have HBA : Hid (Below w.heap.size w (w1.alloc (.map #[] 0))) := Lib.hid (HB1.out.alloc hsz1 _)
 have HOA := Lib.hid (HO1.out.alloc (.map #[] 0))
 clear M1
 go_upto_region 3 with (first | (refine wpList_setx_ins rfl (.tmp 19) (.tmp 20) (.const (.bool true)) 110 rfl KS Tryz.underlying110 Tryz.underlying9 Tryz.underlying4 rfl HM1.out (by simp) rfl rfl haz ?_; intro w2 hm2 hg2))
 clear hmm
 have HM2 : Hid (SetX Tryz.prog w2 9 4 w1.heap.size [a]) := Lib.hid hm2
 have HB2 : Hid (Below w.heap.size w w2) := Lib.hid (HBA.out.grown hg2 HBA.out.size (fun k e => by injection e with e; omega))
 have HO2 := Lib.hid (HOA.out.map_ HM1.out hg2)
 obtain ⟨mb, hmb⟩ : ∃ u, u = w1.heap.size := ⟨_, rfl⟩
 rw [← hmb] at HM2 ⊢
 have hmbw : w.heap.size ≤ mb := by omega
 clear hm2 hg2 HM1 HBA HOA HO1 HB1 hmb hsz1
 have hsz2 := HB2.out.size
 have o1 := own_lit1_at' (base := w.heap.size) strE_len w2 9 a (b := w2.heap.size) rfl hsz2
 have o2 := own_lit1_at' (base := w.heap.size) slcE_len (w2.alloc (.cells ⟨strE a⟩ 9)) 23 ((some ⟨w2.heap.size, 0, none⟩, 1, 1) : Hd) (b := w2.heap.size + 1) (by simp) (by simp; omega)
 have T0 : TabT ((w2.alloc (.cells ⟨strE a⟩ 9)).alloc (.cells ⟨slcE (some ⟨w2.heap.size, 0, none⟩, 1, 1)⟩ 23)) w.heap.size (some ⟨w2.heap.size + 1, 0, none⟩) 1 1 [(some ⟨w2.heap.size, 0, none⟩, 1, 1)] [[a]] := ⟨o2, rfl, fun k v r hv hr => by
  rcases k with _ | k
  ·simp at hv hr
   subst hv hr
   exact o1.alloc _
  ·simp at hv⟩
 have b1 : Below w2.heap.size w2 ((w2.alloc (.cells ⟨strE a⟩ 9)).alloc (.cells ⟨slcE (some ⟨w2.heap.size, 0, none⟩, 1, 1)⟩ 23)) := by (repeat' (first | (with_reducible exact Below.refl _ _) | (with_reducible assumption) | (with_reducible refine below_drewN ?_ _) | (with_reducible refine Below.drew ?_) | (with_reducible refine below_alloc ?_ _) | (with_reducible refine Below.alloc ?_ ?_ _) | (with_reducible refine Below.setCell ?_ ?_ _) | (with_reducible refine below_go ?_ (by with_reducible assumption)) | (with_reducible refine below_then (by with_reducible assumption) ?_ ?_) | go_size))
 have HMT := Lib.hid (HM2.out.up b1)
 have HOT := Lib.hid (HO2.out.up b1)
 have HBT := Lib.hid (below_go HB2.out b1)
 have HT0 := Lib.hid T0
 clear o1 o2 T0 b1 HM2 HO2 HB2
 change Hid (SetX Tryz.prog ((w2.alloc (.cells #[.string a] 9)).alloc (.cells #[.slice (some ⟨w2.heap.size, 0, none⟩) 1 1] 23)) 9 4 mb [a]) at HMT
 change Hid (Owned strE 1 9 ((w2.alloc (.cells #[.string a] 9)).alloc (.cells #[.slice (some ⟨w2.heap.size, 0, none⟩) 1 1] 23)) w.heap.size A1 3 c1 [H 1, H 0, H 2]) at HOT
 change Hid (Below w.heap.size w ((w2.alloc (.cells #[.string a] 9)).alloc (.cells #[.slice (some ⟨w2.heap.size, 0, none⟩) 1 1] 23))) at HBT
 change Hid (TabT ((w2.alloc (.cells #[.string a] 9)).alloc (.cells #[.slice (some ⟨w2.heap.size, 0, none⟩) 1 1] 23)) w.heap.size (some ⟨w2.heap.size + 1, 0, none⟩) 1 1 [(some ⟨w2.heap.size, 0, none⟩, 1, 1)] [[a]]) at HT0
 go_wp2
 go_loopw [12, 13] (fun v rv wr => ∃ (k N R : Nat) (ls : List (List ByteArray)) (A' : Option Addr) (c' : Nat) (vs : List Hd) (S : List ByteArray), v = .slice A' N c' ∧ rv = .int .i64 (R : Int) ∧ N + k = 9 ∧ 1 ≤ N ∧ Hid (TabT wr w.heap.size A' N c' vs ls) ∧ Hid (layR H a tg = layF H tg k ls) ∧ Hid (∀ L ∈ ls, ∀ x ∈ L, RowN st x) ∧ manyL ls ≤ 3200 ∧ R + (lastL ls).length = manyL ls ∧ Hid (SetX Tryz.prog wr 9 4 mb S) ∧ Hid (∀ x, x ∈ S ↔ ∃ Y ∈ ls, x ∈ Y) ∧ S.length = manyL ls ∧ Hid (Owned strE 1 9 wr w.heap.size A1 3 c1 [H 1, H 0, H 2]) ∧ Hid (Below w.heap.size w wr)) (fun v _ _ => 9 - slLen v)
 case atStart => exact ⟨8, 1, 0, [[a]], _, _, _, [a], rfl, rfl, rfl, Nat.le_refl _, HT0, HLY, Lib.hid (fun L hL x hx => by rw [List.mem_singleton] at hL; subst hL; rw [List.mem_singleton] at hx; subst hx; exact HA.out), by simp [manyL], by simp [manyL, lastL], HMT, Lib.hid (fun x => by simp), by simp [manyL], HOT, HBT⟩
 case round =>
  obtain ⟨k, N, R, ls, A3, c3, vs, S, rfl, rfl, hNk, hN1, HT, HLR, HRW, hmz, hRl, HM, HSM, hSl, HO, HB⟩ := hrel
  rename World => wr
  have HNL := Lib.hid HT.out.nlen
  by_cases hlt : N ≤ 8
  ·obtain ⟨k, rfl⟩ : ∃ j, k = j + 1 := ⟨k - 1, by omega⟩
   have hNI : decide ((N : Int) ≤ 8) = true := decide_eq_true (by omega)
   obtain ⟨b, off, BL, mL, dL, r0, rfl, hbw, hcell, hr0, hr0l, hrs⟩ := HT.out.tab.row (k := N - 1) (by omega)
   have hls : 0 < ls.length := by rw [HNL.out]; omega
   have hla := lastL_at hls
   rw [HNL.out] at hla
   have er : r0 = lastL ls := by rw [hla] at hr0; injection hr0 with hr0; exact hr0.symm
   rw [er] at hr0l hrs
   have HRS := Lib.hid hrs
   have HLW := Lib.hid (HRW.out _ (List.mem_of_getElem? hla))
   have HLl := Lib.hid hr0l
   have hw1 : IntKind.i64.wrap ((N : Int) - 1) = ((N - 1 : Nat) : Int) := by rw [wrap_id (by omega)]; omega
   have hi1 : ((N - 1 : Nat) : Int) < (N : Int) := by omega
   have hw2 : IntKind.i64.wrap ((R : Int) + (mL : Int)) = ((manyL ls : Nat) : Int) := by rw [wrap_id (by omega)]; omega
   clear er hr0 hla hls hrs
   by_cases hm8 : manyL ls ≤ 800
   ·have hmI : decide ((800 : Int) < ((manyL ls : Nat) : Int)) = false := decide_eq_false (by omega)
    have hml : mL ≤ 800 := by omega
    have hSl2 : S.length ≤ 100000 := by omega
    clear hr0l
    go_wp2_with fail
    clear hmI hNI hcell hw1 hi1 hw2
    refine (impl_nextLayer (ls := ls) HO.out.recs HC.out HLl.out HRS.out HLW.out (by omega) HM.out hSl2 HSM.out).mono ?_; rintro e w5 ⟨g5, m5, c5, S5, rfl, ho5, hm5, hs5, hl5, hg5⟩
    have HB5 := Lib.hid (HB.out.grown hg5 HB.out.size (fun k e => by injection e with e; omega))
    have HT5 := Lib.hid (HT.out.map_ HM.out hg5)
    have HH5 := Lib.hid (HO.out.map_ HM.out hg5)
    have HM5 := Lib.hid hm5
    have HO5 := Lib.hid (ho5.base_le HB.out.size)
    have hsz5 := HB5.out.size
    have HNR := Lib.hid (nextF_row (ls := ls) HC.out HLW.out)
    have HSR := Lib.hid (nextF_set H ls (lastL ls)).1
    have hnl3 := nextF_len H ls (lastL ls)
    have HY := Lib.hid (HLH.out k ls hm8)
    have HG := Lib.hid (HLG.out k ls hm8)
    have HS5 := Lib.hid hs5
    obtain ⟨nx, hnx⟩ : ∃ u, u = nextF H ls (lastL ls) := ⟨_, rfl⟩
    rw [← hnx] at HO5 HNR HY HG HSR HS5 hnl3
    have hnl : nx.length = m5 := HO5.out.len
    have HSN : Hid (∀ x, x ∈ S5 ↔ ∃ Y ∈ ls ++ [nx], x ∈ Y) := Lib.hid (fun x => by
     rw [HS5.out, HSM.out]
     constructor
     ·rintro (⟨Y, hY, hx⟩ | hx)
      ·exact ⟨Y, List.mem_append_left _ hY, hx⟩
      ·exact ⟨nx, by simp, hx⟩
     ·rintro ⟨Y, hY, hx⟩
      rcases List.mem_append.1 hY with q | q
      ·exact Or.inl ⟨Y, q, hx⟩
      ·rw [List.mem_singleton.1 q] at hx; exact Or.inr hx)
    clear ho5 hm5 hs5 hg5 hnx HS5 HM HT HO HRS
    go_wp2_with (first | (at_builtin; go_must ((refine wpList_append_recs Tryz.elStrs slcE_one rfl (.tmp 44) (.tmp 46) rfl rfl (HT5.out.top.alloc _) rfl (own_lit1_at' slcE_len _ 23 ((some ⟨g5, 0, none⟩, m5, c5) : Hd) rfl (Nat.le_refl _)).recs rfl ?_ (by decide) ?_ ?_; (focus (first | omega | (simp only [World.size_alloc]; done) | (simp only [World.size_alloc]; omega) | (simp; done) | (simp; omega))); (focus (first | omega | (simp only [World.size_alloc]; done) | (simp only [World.size_alloc]; omega) | (simp; done) | (simp; omega))); intro A6 c6 w6 ho6 hg6 hl6; have HO6 := Lib.hid ho6; have HG6 := Lib.hid hg6; clear ho6 hg6 hl6))))
    have HTA := Lib.hid (HT5.out.up ((Below.refl _ _).alloc (Nat.le_refl _) (.cells ⟨slcE (some ⟨g5, 0, none⟩, m5, c5)⟩ 23)))
    have HMA := Lib.hid (HM5.out.alloc (.cells ⟨slcE (some ⟨g5, 0, none⟩, m5, c5)⟩ 23))
    have HHA := Lib.hid (HH5.out.alloc (.cells ⟨slcE (some ⟨g5, 0, none⟩, m5, c5)⟩ 23))
    have HOA := Lib.hid (HO5.out.alloc (.cells ⟨slcE (some ⟨g5, 0, none⟩, m5, c5)⟩ 23))
    have HB6 : Hid (Below w.heap.size w w6) := Lib.hid ((HB5.out.alloc hsz5 _).trans (grown_base HG6.out (by simp; omega) (fun z hz => (HT5.out.top.range z hz).1)))
    have HT6 := Lib.hid (HTA.out.app (v := (some ⟨g5, 0, none⟩, m5, c5)) (r := nx) HO6.out HG6.out HOA.out (by decide))
    have HM6 := Lib.hid (HMA.out.kept HG6.out (setx_own HTA.out.top HMA.out))
    have HH6 := Lib.hid (HHA.out.kept HG6.out (fun k hk e => HTA.out.top.ne HHA.out (by decide) k e hk))
    have HR6 : Hid (Strs w6 (some ⟨g5, 0, none⟩) nx) := Lib.hid (HT6.out.row N (some ⟨g5, 0, none⟩, m5, c5) nx (by rw [List.getElem?_append_right (by rw [HT5.out.top.len]; exact Nat.le_refl _), HT5.out.top.len]; simp) (by rw [List.getElem?_append_right (by rw [HNL.out]; exact Nat.le_refl _), HNL.out]; simp)).recs
    clear HTA HMA HHA HOA HO6 HG6
    try go_wp2_with fail
    refine (impl_has hnl HR6.out (by omega) HSR.out).mono ?_; rintro e w7 ⟨rfl, hb7⟩
    have HB7 := Lib.hid (below_go HB6.out hb7)
    have HT7 := Lib.hid (HT6.out.up hb7)
    have HM7 := Lib.hid (HM6.out.up hb7)
    have HH7 := Lib.hid (HH6.out.up hb7)
    clear hb7
    rcases hin : inL nx tg
    ·have HE := Lib.hid (HG.out hin)
     clear hin
     go_wp2
     go_roundw
     case rel => exact ⟨k, N + 1, manyL ls, ls ++ [nx], A6, c6, _, S5, rfl, rfl, by omega, by omega, HT7, Lib.hid (HLR.out.trans HE.out), Lib.hid (fun L hL => (List.mem_append.1 hL).elim (HRW.out L) (fun q => by rw [List.mem_singleton.1 q]; exact HNR.out)), by rw [manyL_snoc]; omega, by rw [lastL_snoc, manyL_snoc], HM7, HSN, by rw [manyL_snoc]; omega, HH7, HB7⟩
     case measure => simp [slLen]; omega
    ·have HE := Lib.hid (HLR.out.trans (HY.out hin))
     clear hin
     go_wp2
     go_ret2
     rw [HE.out]
     exact ⟨A6, N + 1, c6, _, rfl, HT7.out, HB7.out⟩
   ·have HE := Lib.hid (HLR.out.trans (HLM.out (k + 1) ls hm8))
    have hmI : decide ((800 : Int) < ((manyL ls : Nat) : Int)) = true := decide_eq_true (by omega)
    go_wp2
    go_ret2
    rw [HE.out]
    exact ⟨none, 0, 0, [], rfl, TabT.nil _ _, HB.out⟩
  ·obtain rfl : k = 0 := by omega
   have HE := Lib.hid (HLR.out.trans (HL0.out ls))
   have hNI : decide ((N : Int) ≤ 8) = false := decide_eq_false (by omega)
   go_wp2
   go_ret2
   rw [HE.out]
   exact ⟨none, 0, 0, [], rfl, TabT.nil _ _, HB.out⟩
end Go.Proofs.YtidolgonmimicaaGreat
namespace Go.Proofs.YtidolgonmimicaaGreat
open Go.ChangeShapes Go.WideShapes Go.ChangeAt Go.RowKit Go.Deep
def reachB (H : Cl → ByteArray) (tg : ByteArray) (k : Nat) (x : ByteArray) : Bool := (leastW H tg k x).isSome
theorem reach_0 {H : Cl → ByteArray} {tg x : ByteArray} : reachB H tg 0 x = true ↔ x = tg := by
 rw [reachB, leastW]
 by_cases h : x = tg
 ·rw [if_pos h]; simp [h]
 ·rw [if_neg h]; simp [h]
theorem reach_iff {H : Cl → ByteArray} {tg x : ByteArray} {k : Nat} : reachB H tg k x = true ↔ ∃ w : List Cl, w.length = k ∧ goW H x w = tg := by
 rw [reachB, Option.isSome_iff_exists]
 constructor
 ·rintro ⟨w, h⟩
  exact ⟨w, leastW_leads k x w h⟩
 ·rintro ⟨w, h1, h2⟩
  obtain ⟨v, hv, _⟩ := leastW_some k x w h1 h2
  exact ⟨v, hv⟩
theorem reach_succ {H : Cl → ByteArray} {tg x : ByteArray} {k : Nat} : reachB H tg (k + 1) x = true ↔ ∃ c, reachB H tg k (timesS x (H c)) = true := by
 rw [reach_iff]
 constructor
 ·rintro ⟨w, h1, h2⟩
  match w, h1, h2 with
  | c :: v, h1, h2 => exact ⟨c, reach_iff.2 ⟨v, by simpa using h1, h2⟩⟩
 ·rintro ⟨c, h⟩
  obtain ⟨v, h1, h2⟩ := reach_iff.1 h
  exact ⟨c :: v, by simp [h1], h2⟩
def GoodS (H : Cl → ByteArray) (tg : ByteArray) (M : List (List ByteArray)) (d i : Nat) (S : List ByteArray) : Prop := ∀ x, x ∈ S ↔ ((∃ L, M[i]? = some L ∧ x ∈ L) ∧ reachB H tg (d - i) x = true)
section
variable {H : Cl → ByteArray} {a tg : ByteArray} {M : List (List ByteArray)} {d : Nat}
theorem goodS_last (hL : Layers H a M) (hM : M.length = d + 1) (hb : Dist H a d tg) : GoodS H tg M d d [tg] := fun x => by
 rw [List.mem_singleton, Nat.sub_self, reach_0]
 constructor
 ·rintro rfl
  refine ⟨⟨M[d]'(by omega), List.getElem?_eq_getElem (by omega), ?_⟩, rfl⟩
  exact ((hL d _ (List.getElem?_eq_getElem (by omega))).2.2 _).2 hb
 ·rintro ⟨_, h⟩
  exact h
theorem goodS_next (hL : Layers H a M) (hM : M.length = d + 1) (hb : Dist H a d tg) {i : Nat} (hi : i < d) {S L : List ByteArray} (hS : GoodS H tg M d (i + 1) S) (hLi : M[i]? = some L) {x : ByteArray} (hx : x ∈ L) (c : Cl) :
  timesS x (H c) ∈ S ↔ reachB H tg (d - (i + 1)) (timesS x (H c)) = true := by
 rw [hS]
 refine ⟨fun h => h.2, fun h => ⟨?_, h⟩⟩
 refine ⟨M[i + 1]'(by omega), List.getElem?_eq_getElem (by omega), ?_⟩
 refine ((hL (i + 1) _ (List.getElem?_eq_getElem (by omega))).2.2 _).2 ?_
 obtain ⟨v, h1, h2⟩ := reach_iff.1 h
 have hd := ((hL i L hLi).2.2 x).1 hx
 have hb2 : Dist H a (i + (d - i)) tg := by rw [show i + (d - i) = d by omega]; exact hb
 exact dist_way hb2 hd (w := c :: v) (by simp; omega) h2 rfl
def anyTo (H : Cl → ByteArray) (tg : ByteArray) (k : Nat) (x : ByteArray) : Nat → Bool
 | 0 => false
 | 1 => reachB H tg k (timesS x (H 1))
 | 2 => reachB H tg k (timesS x (H 1)) || reachB H tg k (timesS x (H 0))
 | _ => reachB H tg k (timesS x (H 1)) || reachB H tg k (timesS x (H 0)) || reachB H tg k (timesS x (H 2))
def hdN : Nat → Cl
 | 0 => 1
 | 1 => 0
 | _ => 2
theorem anyTo_succ {k : Nat} {x : ByteArray} {q : Nat} (hq : q < 3) : anyTo H tg k x (q + 1) = (anyTo H tg k x q || reachB H tg k (timesS x (H (hdN q)))) := by
 rcases q with _ | _ | _ | q
 ·simp [anyTo, hdN]
 ·rfl
 ·rfl
 ·omega
theorem anyTo_all {k : Nat} {x : ByteArray} : anyTo H tg k x 3 = reachB H tg (k + 1) x := by
 rw [Bool.eq_iff_iff, reach_succ]
 show (reachB H tg k (timesS x (H 1)) || reachB H tg k (timesS x (H 0)) || reachB H tg k (timesS x (H 2))) = true ↔ _
 rw [Bool.or_eq_true, Bool.or_eq_true]
 constructor
 ·rintro ((h | h) | h)
  ·exact ⟨1, h⟩
  ·exact ⟨0, h⟩
  ·exact ⟨2, h⟩
 ·rintro ⟨c, h⟩
  rcases cl_cases c with rfl | rfl | rfl
  ·exact Or.inl (Or.inr h)
  ·exact Or.inl (Or.inl h)
  ·exact Or.inr h
def MarkS (H : Cl → ByteArray) (tg : ByteArray) (L : List ByteArray) (k j q : Nat) (S : List ByteArray) : Prop := ∀ x, x ∈ S ↔ ((x ∈ L.take j ∧ reachB H tg (k + 1) x = true) ∨ (L[j]? = some x ∧ anyTo H tg k x q = true))
theorem markS_start (L : List ByteArray) (k : Nat) : MarkS H tg L k 0 0 [] := fun x => by simp [anyTo]
theorem markS_row {L : List ByteArray} {k j : Nat} {r : ByteArray} {S : List ByteArray} (h : MarkS H tg L k j 3 S) (hr : L[j]? = some r) : MarkS H tg L k (j + 1) 0 S := fun x => by
 rw [h, take_succ_some hr, List.mem_append, List.mem_singleton, hr]
 constructor
 ·rintro (⟨h1, h2⟩ | ⟨h1, h2⟩)
  ·exact Or.inl ⟨Or.inl h1, h2⟩
  ·injection h1 with h1
   rw [anyTo_all] at h2
   exact Or.inl ⟨Or.inr h1.symm, h2⟩
 ·rintro (⟨h1 | h1, h2⟩ | ⟨_, h2⟩)
  ·exact Or.inl ⟨h1, h2⟩
  ·exact Or.inr ⟨by rw [h1], by rw [anyTo_all]; exact h2⟩
  ·cases h2
theorem markS_yes {L : List ByteArray} {k j q : Nat} {r : ByteArray} {S : List ByteArray} (h : MarkS H tg L k j q S) (hr : L[j]? = some r) (hq : q < 3) (hy : reachB H tg k (timesS r (H (hdN q))) = true) : MarkS H tg L k j (q + 1) (S ++ [r]) := fun x => by
 rw [List.mem_append, List.mem_singleton, h, hr]
 constructor
 ·rintro ((h1 | ⟨h1, h2⟩) | rfl)
  ·exact Or.inl h1
  ·exact Or.inr ⟨h1, by rw [anyTo_succ hq, h2]; rfl⟩
  ·exact Or.inr ⟨rfl, by rw [anyTo_succ hq, hy, Bool.or_true]⟩
 ·rintro (h1 | ⟨h1, h2⟩)
  ·exact Or.inl (Or.inl h1)
  ·injection h1 with h1
   exact Or.inr h1.symm
theorem markS_no {L : List ByteArray} {k j q : Nat} {r : ByteArray} {S : List ByteArray} (h : MarkS H tg L k j q S) (hr : L[j]? = some r) (hq : q < 3) (hy : reachB H tg k (timesS r (H (hdN q))) = false) : MarkS H tg L k j (q + 1) S := fun x => by
 rw [h, hr]
 constructor
 ·rintro (h1 | ⟨h1, h2⟩)
  ·exact Or.inl h1
  ·exact Or.inr ⟨h1, by rw [anyTo_succ hq, h2]; rfl⟩
 ·rintro (h1 | ⟨h1, h2⟩)
  ·exact Or.inl h1
  ·injection h1 with h1
   subst h1
   rw [anyTo_succ hq, hy, Bool.or_false] at h2
   exact Or.inr ⟨rfl, h2⟩
theorem markS_done {L : List ByteArray} {k i : Nat} {S : List ByteArray} (hLi : M[i]? = some L) (hk : d - i = k + 1) (h : MarkS H tg L k L.length 0 S) : GoodS H tg M d i S := fun x => by
 rw [h, List.take_length, hk]
 constructor
 ·rintro (⟨h1, h2⟩ | ⟨_, h2⟩)
  ·exact ⟨⟨L, hLi, h1⟩, h2⟩
  ·cases h2
 ·rintro ⟨⟨L', e, h1⟩, h2⟩
  rw [hLi] at e
  injection e with e
  subst e
  exact Or.inl ⟨h1, h2⟩
theorem leastW_step {k : Nat} {x : ByteArray} {w : List Cl} (h : leastW H tg (k + 1) x = some w) : ∃ c v, w = c :: v ∧ leastW H tg k (timesS x (H c)) = some v ∧ ∀ b, b < c → reachB H tg k (timesS x (H b)) = false := by
 simp only [leastW] at h
 split at h
 ·rename_i v hv
  injection h with h
  exact ⟨0, v, h.symm, hv, fun b hb => absurd hb (by rcases cl_cases b with rfl | rfl | rfl <;> decide)⟩
 ·rename_i h0
  split at h
  ·rename_i v hv
   injection h with h
   refine ⟨1, v, h.symm, hv, fun b hb => ?_⟩
   rcases cl_cases b with rfl | rfl | rfl
   ·rw [reachB, h0]; rfl
   ·exact absurd hb (by decide)
   ·exact absurd hb (by decide)
  ·rename_i h1
   rw [Option.map_eq_some_iff] at h
   obtain ⟨v, hv, e⟩ := h
   refine ⟨2, v, e.symm, hv, fun b hb => ?_⟩
   rcases cl_cases b with rfl | rfl | rfl
   ·rw [reachB, h0]; rfl
   ·rw [reachB, h1]; rfl
   ·exact absurd hb (by decide)
end
end Go.Proofs.YtidolgonmimicaaGreat
namespace Go.Proofs.YtidolgonmimicaaGreat
open Go.ChangeShapes Go.WideShapes Go.ChangeAt Go.RowKit Go.Deep
open Go.Maps (Keyed string_keyed)
def mapE (o : Option Nat) : List Value := [.map o]
theorem mapE_len (o : Option Nat) : (mapE o).length = 1 := rfl
theorem Tryz.elMaps : ElemOk Tryz.prog 122 110 (.map none) 1 8 := ⟨Tryz.underlying122, by kernel_rfl, rfl, by decide⟩
def GdM (w : World) (gl : List (Option Nat)) (H : Cl → ByteArray) (tg : ByteArray) (M : List (List ByteArray)) (d lo B base : Nat) : Prop := ∀ j, lo ≤ j → j ≤ d → ∃ (b : Nat) (S : List ByteArray), gl[j]? = some (some b) ∧ base ≤ b ∧ b < B ∧ SetX Tryz.prog w 9 4 b S ∧ GoodS H tg M d j S ∧ S.length ≤ 100000
section
variable {w w' : World} {gl : List (Option Nat)} {H : Cl → ByteArray} {tg : ByteArray} {M : List (List ByteArray)} {d lo B base : Nat}
theorem GdM.up (h : GdM w gl H tg M d lo B base) (hb : Below w.heap.size w w') : GdM w' gl H tg M d lo B base := fun j h1 h2 => by
 obtain ⟨b, S, e1, e2, e3, e4, e5, e6⟩ := h j h1 h2
 exact ⟨b, S, e1, e2, e3, e4.up hb, e5, e6⟩
theorem GdM.kept {row : Option Nat} (h : GdM w gl H tg M d lo B base) (hg : w.grownBy w' row) (hne : ∀ (b : Nat) (S : List ByteArray), SetX Tryz.prog w 9 4 b S → b < B → some b ≠ row) : GdM w' gl H tg M d lo B base := fun j h1 h2 => by
 obtain ⟨b, S, e1, e2, e3, e4, e5, e6⟩ := h j h1 h2
 exact ⟨b, S, e1, e2, e3, e4.kept hg (hne b S e4 e3), e5, e6⟩
theorem GdM.more {B' : Nat} (h : GdM w gl H tg M d lo B base) (hB : B ≤ B') : GdM w gl H tg M d lo B' base := fun j h1 h2 => by
 obtain ⟨b, S, e1, e2, e3, e4⟩ := h j h1 h2
 exact ⟨b, S, e1, e2, by omega, e4⟩
theorem GdM.set {q : Nat} {o : Option Nat} (h : GdM w gl H tg M d (q + 1) B base) : GdM w (gl.set q o) H tg M d (q + 1) B base := fun j h1 h2 => by
 obtain ⟨b, S, e1, e2⟩ := h j h1 h2
 exact ⟨b, S, by rw [List.getElem?_set_ne (by omega)]; exact e1, e2⟩
theorem GdM.next {q b : Nat} {S : List ByteArray} (h : GdM w gl H tg M d (q + 1) B base) (hq : gl[q]? = some (some b)) (h1 : base ≤ b) (h2 : b < B) (h3 : SetX Tryz.prog w 9 4 b S) (h4 : GoodS H tg M d q S) (h5 : S.length ≤ 100000) : GdM w gl H tg M d q B base := fun j hj1 hj2 => by
 by_cases e : j = q
 ·subst e
  exact ⟨b, S, hq, h1, h2, h3, h4, h5⟩
 ·exact h j (by omega) hj2
end
structure RtS (w wr : World) (nm : ByteArray) (st : Nat) (A : Option Addr) (n c : Nat) (kb ks : ByteArray) (base : Nat) (AM : Option Addr) (m cM : Nat) (vs : List Hd) (M : List (List ByteArray)) (A1 : Option Addr) (c1 : Nat) (HL : List ByteArray) (g : Nat) (gl : List (Option Nat)) : Prop where
 k0 : Blk wr w.heap.size 25 [.string nm, .int .i64 (st : Int), .slice A n c]
 k1 : Blk wr (w.heap.size + 1) 27 [.string kb, .string ks]
 hb : w.heap.size + 1 < base
 t : TabT wr base AM m cM vs M
 h : Owned strE 1 9 wr base A1 3 c1 HL
 r : Owned mapE 1 110 wr base (some ⟨g, 0, none⟩) m m gl
 b : Below w.heap.size w wr
section
variable {w wr wr' : World} {nm : ByteArray} {st : Nat} {A : Option Addr} {n c : Nat} {kb ks : ByteArray} {base : Nat} {AM : Option Addr} {m cM : Nat} {vs : List Hd} {M : List (List ByteArray)} {A1 : Option Addr} {c1 : Nat} {HL : List ByteArray} {g : Nat} {gl gl' : List (Option Nat)}
theorem RtS.up (h : RtS w wr nm st A n c kb ks base AM m cM vs M A1 c1 HL g gl) (hb : Below wr.heap.size wr wr') : RtS w wr' nm st A n c kb ks base AM m cM vs M A1 c1 HL g gl :=
 ⟨h.k0.up hb, h.k1.up hb, h.hb, h.t.up hb, h.h.up hb, h.r.up hb, below_go h.b hb⟩
theorem RtS.mapw {bq : Nat} {S : List ByteArray} (h : RtS w wr nm st A n c kb ks base AM m cM vs M A1 c1 HL g gl) (hs : SetX Tryz.prog wr 9 4 bq S) (hq : base ≤ bq) (hg : wr.grownBy wr' (some bq)) : RtS w wr' nm st A n c kb ks base AM m cM vs M A1 c1 HL g gl := by
 have h1 := h.hb
 exact ⟨h.k0.grown hg (fun e => by injection e with e; omega), h.k1.grown hg (fun e => by injection e with e; omega), h.hb, h.t.map_ hs hg, h.h.map_ hs hg, h.r.map_ hs hg, h.b.grown hg h.b.size (fun k e => by injection e with e; omega)⟩
theorem RtS.store (h : RtS w wr nm st A n c kb ks base AM m cM vs M A1 c1 HL g gl) (hr : Owned mapE 1 110 wr' base (some ⟨g, 0, none⟩) m m gl') (hg : wr.grownBy wr' (some g)) : RtS w wr' nm st A n c kb ks base AM m cM vs M A1 c1 HL g gl' := by
 have h1 := h.hb
 have h2 := h.r.at_own
 have ne1 : ∀ {B : Option Addr} {x y : Nat} {L : List ByteArray}, Owned strE 1 9 wr base B x y L → Owned strE 1 9 wr' base B x y L := fun ho => ho.kept hg (fun k hk e => ho.ne h.r (by decide) k hk e)
 refine ⟨h.k0.grown hg (fun e => by injection e with e; omega), h.k1.grown hg (fun e => by injection e with e; omega), h.hb, ⟨h.t.top.kept hg (fun k hk e => h.t.top.ne h.r (by decide) k hk e), h.t.len, fun k v r hv hr => ne1 (h.t.row k v r hv hr)⟩, ne1 h.h, hr, h.b.grown hg h.b.size (fun k e => by injection e with e; omega)⟩
theorem RtS.cell {k : Nat} {o : Option Nat} (h : RtS w wr nm st A n c kb ks base AM m cM vs M A1 c1 HL g gl) (hk : gl[k]? = some o) : wr.cell? ⟨g, k, none⟩ = some (.map o) ∧ wr.frozen? ⟨g, k, none⟩ = false := by
 have hl := (List.getElem?_eq_some_iff.1 hk).1
 obtain ⟨g', e, _, _, gc, gf⟩ := h.r.at_ (by rw [← h.r.len]; omega)
 injection e with e
 injection e with e
 subst e
 have := gc k o 0 _ hk rfl
 simp only [Nat.mul_one, Nat.add_zero] at this
 exact ⟨this, gf k⟩
theorem RtS.put {k : Nat} {o : Option Nat} (h : RtS w wr nm st A n c kb ks base AM m cM vs M A1 c1 HL g gl) (hk : k < gl.length) : RtS w (wr.setCell ⟨g, k, none⟩ (.map o)) nm st A n c kb ks base AM m cM vs M A1 c1 HL g (gl.set k o) ∧ wr.grownBy (wr.setCell ⟨g, k, none⟩ (.map o)) (some g) := by
 have q := h.r.put (k := k) (j := 0) (x := o) (y := gl[k]) (u := .map o) (List.getElem?_eq_getElem hk) (by decide) rfl
 simp only [Nat.mul_one, Nat.add_zero] at q
 exact ⟨h.store q.1 q.2, q.2⟩
end
end Go.Proofs.YtidolgonmimicaaGreat
namespace Go.Proofs.YtidolgonmimicaaGreat
open Go.ChangeShapes Go.WideShapes Go.ChangeAt Go.RowKit Go.Deep
open Go.Maps (Keyed string_keyed)
theorem hdN_lt {H : Cl → ByteArray} {x : Nat} (hx : x < 3) : [H 1, H 0, H 2][x]? = some (H (hdN x)) := by
 rcases x with _ | _ | _ | x
 ·rfl
 ·rfl
 ·rfl
 ·omega
set_option maxHeartbeats 8000000 in
set_option maxRecDepth 100000 in
theorem impl_RepairTouch {A : Option Addr} {n c st : Nat} {nm : ByteArray} {l : List ByteArray} {kb ks a b : ByteArray} {w : World} (hn : l.length = n) (h : Strs w A l) (hz : n ≤ 1048576) (hs : ∀ s ∈ l, s.size ≤ 16777216) (hnm : nm.size ≤ 16777216) (h9 : st ≤ 1000) (hkb : kb.size ≤ 16777216) (hks : ks.size ≤ 16777216) (ha : a.size ≤ 16777216) (hb : b.size ≤ 16777216) :
  Calls Tryz.prog 36 #[.agg #[.string nm, .int .i64 st, .slice A n c], .agg #[.string kb, .string ks], .string a, .string b] w fun e w' => e = .returned (.tuple #[.string (lstT (rtO nm st l kb ks a b)), .bool (rtO nm st l kb ks a b).isSome]) ∧ Below w.heap.size w w' := by
 have HT := Lib.hid (@rtO_t nm st l kb ks a b)
 have HF := Lib.hid (@rtO_f nm st l kb ks a b)
 have KS := string_keyed (P := Tryz.prog) (k := 9) Tryz.underlying9
 have b0 : Below w.heap.size w ((w.alloc (.cells ⟨[.string nm, .int .i64 st, .slice A n c]⟩ 25)).alloc (.cells ⟨[.string kb, .string ks]⟩ 27)) := by (repeat' (first | (with_reducible exact Below.refl _ _) | (with_reducible assumption) | (with_reducible refine below_drewN ?_ _) | (with_reducible refine Below.drew ?_) | (with_reducible refine below_alloc ?_ _) | (with_reducible refine Below.alloc ?_ ?_ _) | (with_reducible refine Below.setCell ?_ ?_ _) | (with_reducible refine below_go ?_ (by with_reducible assumption)) | (with_reducible refine below_then (by with_reducible assumption) ?_ ?_) | go_size))
 have K0 := (Blk.at_ w 25 [.string nm, .int .i64 st, .slice A n c] (b := w.heap.size) rfl).alloc (.cells ⟨[.string kb, .string ks]⟩ 27)
 have K1 := Blk.at_ (w.alloc (.cells ⟨[.string nm, .int .i64 st, .slice A n c]⟩ 25)) 27 [.string kb, .string ks] (b := w.heap.size + 1) (by simp)
 have HH := Lib.hid h
 clear h
 go_in
 go_upto_region 1 with fail
 obtain ⟨w0, hw0⟩ : ∃ u, u = ((w.alloc (.cells #[.string nm, .int .i64 st, .slice A n c] 25)).alloc (.cells #[.string kb, .string ks] 27)) := ⟨_, rfl⟩
 have z0 : w0.heap.size = w.heap.size + 2 := by rw [hw0]; simp
 rw [← hw0] at b0 K0 K1 ⊢
 clear hw0
 obtain ⟨base, hbase⟩ : ∃ u, u = w0.heap.size := ⟨_, rfl⟩
 have hbw : w.heap.size + 1 < base := by omega
 have k0 := K0.cell 0; have k1 := K0.cell 1; have k2 := K0.cell 2; have j0 := K1.cell 0; have j1 := K1.cell 1
 simp only [List.getElem?_cons_zero, List.getElem?_cons_succ] at k0 k1 k2 j0 j1
 go_wp2_with fail
 clear k0 k1 k2 j0 j1 z0
 refine (impl_goodRepair (nm := nm) hn (HH.out.up b0) hz hs hnm h9 hkb hks ha hb).mono ?_; rintro e w1 ⟨rfl, hb1⟩
 have B1 := below_go b0 hb1
 have hbs1 : base ≤ w1.heap.size := by have := hb1.size; omega
 replace K0 := K0.up hb1
 replace K1 := K1.up hb1
 clear hb1 b0 hbase
 rcases hg : rpB nm st l kb ks a b
 ·have E := Lib.hid (HF.out hg)
  clear hg
  go_wp2
  go_ret2
  rw [E.out]
  exact ⟨rfl, B1⟩
 ·have ET := Lib.hid (HT.out hg)
  obtain ⟨hkk, h4, hra, hrb, hne⟩ := rpB_t hg
  have h8 := (goodK_all hkk).1
  have HC := Lib.hid (clH_row h8.1 h8.2 l kb ks)
  have HD3 := Lib.hid (hds3_cl st l kb ks)
  have HK := Lib.hid hkk
  have HRA := Lib.hid hra
  have k0 := K0.cell 0; have k1 := K0.cell 1; have k2 := K0.cell 2; have j0 := K1.cell 0; have j1 := K1.cell 1
  simp only [List.getElem?_cons_zero, List.getElem?_cons_succ] at k0 k1 k2 j0 j1
  clear hg hne hrb HT HF h4
  go_wp2_with fail
  clear k0 k1 k2 j0 j1
  refine (impl_repairLayers (nm := nm) (tg := b) hn (HH.out.up B1) hkk hra).mono ?_; rintro e w2 ⟨A2, m2, c2, vs2, rfl, T2, hb2⟩
  have B2 := below_go B1 hb2
  replace T2 := T2.base_le hbs1
  have hbs2 : base ≤ w2.heap.size := by have := hb2.size; omega
  replace K0 := K0.up hb2
  replace K1 := K1.up hb2
  clear hb2 B1 hbs1
  rcases hl : layR (clH st l kb ks) a b with _ | M
  ·have E := Lib.hid (ET.out.trans (repW_none hl))
   rw [hl] at T2
   clear hl
   go_wp2
   go_ret2
   rw [E.out]
   exact ⟨rfl, B2⟩
  ·obtain ⟨v, e1, e2, e3, e4, e5⟩ := repW_some hl
   obtain ⟨hLay, ⟨d, h1, h2, h3, hDist⟩, hM0, hmany⟩ := layR_ok hl
   rw [hl] at T2
   have T2 : TabT w2 base A2 m2 c2 vs2 M := T2
   have hml : M.length = m2 := T2.nlen
   have hm2a : m2 ≤ d + 1 := by omega
   have hm2b : d + 1 ≤ m2 := by omega
   have E := Lib.hid (ET.out.trans e1)
   have hvl : v.length = d := by omega
   have hLW : leastW (clH st l kb ks) b d a = some v := by rw [h1] at e2; exact e2
   obtain ⟨H, hH⟩ : ∃ u, u = clH st l kb ks := ⟨_, rfl⟩
   rw [← hH] at HC HD3 hLay hDist hLW
   have HHE := Lib.hid hH
   have HLAY := Lib.hid hLay
   have HDI := Lib.hid hDist
   have HLW := Lib.hid hLW
   have HM0 := Lib.hid hM0
   have HML := Lib.hid h1
   have HMR : Hid (∀ (j : Nat) (L : List ByteArray), M[j]? = some L → L.length ≤ 3200 ∧ ∀ x ∈ L, RowN st x) := Lib.hid (fun j L hj => by
    refine ⟨by have := manyL_at (List.mem_of_getElem? hj); omega, fun x hx => ?_⟩
    obtain ⟨⟨u, _, eu⟩, _⟩ := ((hLay j L hj).2.2 x).1 hx
    rw [← eu]
    exact goW_row HC.out u a HRA.out)
   have HCH : Hid (∀ c : Cl, callHd st l kb ks (clT c) = H c) := Lib.hid (fun _ => by rw [HHE.out]; rfl)
   clear hl e1 e2 e3 e4 e5 h1 hM0 hmany hLay hDist hLW hH hkk hra hml ET
   have k0 := K0.cell 0; have k1 := K0.cell 1; have k2 := K0.cell 2; have j0 := K1.cell 0; have j1 := K1.cell 1
   simp only [List.getElem?_cons_zero, List.getElem?_cons_succ] at k0 k1 k2 j0 j1
   go_wp2_with fail
   clear k0 k1 k2 j0 j1
   refine (impl_callHeads (nm := nm) hn (HH.out.up B2) HK.out).mono ?_; rintro e w3 ⟨A1, c1, rfl, ho1, hb3⟩
   rw [HD3.out] at ho1
   replace ho1 := ho1.base_le hbs2
   have B3 := below_go B2 hb3
   have hbs3 : base ≤ w3.heap.size := by have := hb3.size; omega
   replace T2 := T2.up hb3
   replace K0 := K0.up hb3
   replace K1 := K1.up hb3
   clear hb3 B2 hbs2
   have hmk := run_make_rec (P := Tryz.prog) (e := mapE) Tryz.elMaps none rfl m2 (by omega) (by decide)
   have oG := Owned.made (e := mapE) (s := 1) (base := base) mapE_len w3 110 none m2 (by omega) hbs3
   rw [Nat.mul_one] at oG
   have a4 : Below w3.heap.size w3 (w3.alloc (.cells (madeCells (mapE none).toArray m2) 110)) := by (repeat' (first | (with_reducible exact Below.refl _ _) | (with_reducible assumption) | (with_reducible refine below_drewN ?_ _) | (with_reducible refine Below.drew ?_) | (with_reducible refine below_alloc ?_ _) | (with_reducible refine Below.alloc ?_ ?_ _) | (with_reducible refine Below.setCell ?_ ?_ _) | (with_reducible refine below_go ?_ (by with_reducible assumption)) | (with_reducible refine below_then (by with_reducible assumption) ?_ ?_) | go_size))
   have S4 : RtS w (w3.alloc (.cells (madeCells (mapE none).toArray m2) 110)) nm st A n c kb ks base A2 m2 c2 vs2 M A1 c1 [H 1, H 0, H 2] w3.heap.size (List.replicate m2 none) := ⟨K0.up a4, K1.up a4, hbw, T2.up a4, ho1.up a4, oG, below_go B3 a4⟩
   go_upto_region 8 with fail
   obtain ⟨w4, hw4⟩ : ∃ u, u = w3.alloc (.cells (madeCells (mapE none).toArray m2) 110) := ⟨_, rfl⟩
   rw [← hw4] at S4 ⊢
   obtain ⟨g, hgg⟩ : ∃ u, u = w3.heap.size := ⟨_, rfl⟩
   rw [← hgg] at S4 ⊢
   clear hmk oG a4 hw4 hgg T2 ho1 K0 K1 B3 hbs3
   have hmm := @run_makeMap Tryz.prog
   have hw1 : IntKind.i64.wrap ((m2 : Int) - 1) = (d : Int) := by rw [wrap_id (by omega)]; omega
   have hdI : (d : Int) < (m2 : Int) := by omega
   have SA := Lib.hid (S4.up ((Below.refl _ _).alloc (Nat.le_refl _) (.map #[] 0)))
   have MA : Hid (SetX Tryz.prog (w4.alloc (.map #[] 0)) 9 4 w4.heap.size []) := Lib.hid (SetX.made _ _ _ _)
   have hbs4 : base ≤ w4.heap.size := by have := S4.r.at_own; omega
   clear S4
   have HGL : Hid (w4.heap.size < (w4.alloc (.map #[] 0)).heap.size) := Lib.hid (by simp)
   go_upto_region 9 with (first | (refine wpList_setx_ins rfl (.tmp 51) (.tmp 52) (.const (.bool true)) 110 rfl KS Tryz.underlying110 Tryz.underlying9 Tryz.underlying4 rfl MA.out (by simp) rfl rfl hb ?_; intro w5 hm5 hg5; have S5 := SA.out.mapw MA.out hbs4 hg5; obtain ⟨q5, f5⟩ := S5.cell (k := d) (o := none) (by rw [List.getElem?_replicate, if_pos (by omega)])))
   clear hmm hw1 hdI q5 f5
   rw [List.nil_append] at hm5
   have hgl0 : (List.replicate m2 (none : Option Nat)).length = m2 := List.length_replicate
   obtain ⟨S6, g6⟩ := S5.put (k := d) (o := some w4.heap.size) (by rw [hgl0]; omega)
   have M6 := hm5.kept g6 (setx_own S5.r hm5)
   have hbd : w4.heap.size < (w5.setCell ⟨g, d, none⟩ (.map (some w4.heap.size))).heap.size := by have := HGL.out; have := hg5.size; have := g6.size; omega
   have HGD : Hid (GdM (w5.setCell ⟨g, d, none⟩ (.map (some w4.heap.size))) ((List.replicate m2 none).set d (some w4.heap.size)) H b M d d (w5.setCell ⟨g, d, none⟩ (.map (some w4.heap.size))).heap.size base) := Lib.hid (fun j hj1 hj2 => by
    obtain rfl : j = d := by omega
    exact ⟨w4.heap.size, [b], by rw [List.getElem?_set_self (by rw [hgl0]; omega)], hbs4, hbd, M6, goodS_last HLAY.out HML.out HDI.out, by simp⟩)
   obtain ⟨w6, hw6⟩ : ∃ u, u = w5.setCell ⟨g, d, none⟩ (.map (some w4.heap.size)) := ⟨_, rfl⟩
   rw [← hw6] at S6 HGD ⊢
   obtain ⟨gl0, hgl⟩ : ∃ u, u = (List.replicate m2 (none : Option Nat)).set d (some w4.heap.size) := ⟨_, rfl⟩
   rw [← hgl] at S6 HGD
   have HS6 := Lib.hid S6
   clear hm5 hg5 S5 S6 g6 M6 hbd hw6 hgl hgl0 SA MA HGL hbs4
   obtain ⟨gA, rfl, _⟩ := HS6.out.t.top.at_ (by omega)
   obtain ⟨gH, rfl, _⟩ := HS6.out.h.at_ (by omega)
   have hw2 : IntKind.i64.wrap ((m2 : Int) - 2) = (d : Int) - 1 := by rw [wrap_id (by omega)]; omega
   go_wp2
   clear hw2
   go_loopw [14] (fun iv wr => ∃ (i : Nat) (gl : List (Option Nat)), iv = .int .i64 ((i : Int) - 1) ∧ i ≤ d ∧ Hid (RtS w wr nm st A n c kb ks base (some ⟨gA, 0, none⟩) m2 c2 vs2 M (some ⟨gH, 0, none⟩) c1 [H 1, H 0, H 2] g gl) ∧ Hid (GdM wr gl H b M d i wr.heap.size base)) (fun iv _ => (intOf iv + 1).toNat)
   case atStart => exact ⟨d, gl0, rfl, Nat.le_refl _, HS6, HGD⟩
   case round =>
    obtain ⟨i, gl, rfl, hi, HS, HG⟩ := hrel
    rename World => wr
    have hgll : gl.length = m2 := HS.out.r.len
    by_cases hpos : 0 < i
    ·obtain ⟨q, rfl⟩ : ∃ q, i = q + 1 := ⟨i - 1, by omega⟩
     have he : (((q + 1 : Nat) : Int) - 1) = (q : Int) := by omega
     rw [he]
     clear he
     have hmm := @run_makeMap Tryz.prog
     have hq0 : (0 : Int) ≤ (q : Int) := by omega
     have hqm : (q : Int) < (m2 : Int) := by omega
     obtain ⟨oq, hoq⟩ : ∃ o, gl[q]? = some o := ⟨_, List.getElem?_eq_getElem (by omega)⟩
     have a7 : Below wr.heap.size wr (wr.alloc (.map #[] 0)) := by (repeat' (first | (with_reducible exact Below.refl _ _) | (with_reducible assumption) | (with_reducible refine below_drewN ?_ _) | (with_reducible refine Below.drew ?_) | (with_reducible refine below_alloc ?_ _) | (with_reducible refine Below.alloc ?_ ?_ _) | (with_reducible refine Below.setCell ?_ ?_ _) | (with_reducible refine below_go ?_ (by with_reducible assumption)) | (with_reducible refine below_then (by with_reducible assumption) ?_ ?_) | go_size))
     have S7 := HS.out.up a7
     obtain ⟨q7, f7⟩ := S7.cell hoq
     go_upto_region 13 with fail
     clear hmm q7 f7 hoq
     obtain ⟨S8, g8⟩ := S7.put (k := q) (o := some wr.heap.size) (by omega)
     have M7 : SetX Tryz.prog (wr.alloc (.map #[] 0)) 9 4 wr.heap.size [] := SetX.made _ _ _ _
     have M8 := M7.kept g8 (setx_own S7.r M7)
     have G8 := ((HG.out.up a7).kept g8 (fun b1 S1 hs1 _ => setx_own S7.r hs1)).set (o := some wr.heap.size)
     have hz8 : wr.heap.size < ((wr.alloc (.map #[] 0)).setCell ⟨g, q, none⟩ (.map (some wr.heap.size))).heap.size := by have := g8.size; simp at this ⊢
     have hqb : base ≤ wr.heap.size := by have := HS.out.r.at_own; omega
     obtain ⟨w7, hw7⟩ : ∃ u, u = (wr.alloc (.map #[] 0)).setCell ⟨g, q, none⟩ (.map (some wr.heap.size)) := ⟨_, rfl⟩
     rw [← hw7] at S8 M8 G8 hz8 ⊢
     obtain ⟨bq, hbq⟩ : ∃ u, u = wr.heap.size := ⟨_, rfl⟩
     rw [← hbq] at S8 M8 G8 hz8 hqb ⊢
     obtain ⟨gl2, hgl2⟩ : ∃ u, u = gl.set q (some bq) := ⟨_, rfl⟩
     have hq2 : gl2[q]? = some (some bq) := by rw [hgl2, List.getElem?_set_self (by omega)]
     rw [← hgl2] at S8 G8
     have HS8 := Lib.hid S8
     have HM8 := Lib.hid M8
     have HG8 := Lib.hid G8
     have HQ2 := Lib.hid hq2
     clear a7 S7 M7 g8 S8 M8 G8 hw7 hbq hgl2 hq2 HS HG hgll
     obtain ⟨b1, S1, e1, hb1b, hb1q, hs1, hg1, hl1⟩ := HG8.out (q + 1) (Nat.le_refl _) (by omega)
     have HE1 := Lib.hid e1
     have HS1 := Lib.hid hs1
     have HG1 := Lib.hid hg1
     clear e1 hs1 hg1 hl1
     obtain ⟨bA, oA, BL, mL, dL, L, eA, _, hcell, hLq, hLl, hLs⟩ := HS8.out.t.tab.row (k := q) (by omega)
     injection eA with eA
     injection eA with x1 x2 _
     subst x1 x2
     rw [Nat.zero_add] at hcell
     have HLQ := Lib.hid hLq
     have HLL := Lib.hid hLl
     have HLS := Lib.hid hLs
     have HLR := Lib.hid (HMR.out q L hLq)
     have hmz : mL ≤ 3200 := by rw [← hLl]; exact HLR.out.1
     have HGN : Hid (∀ r ∈ L, ∀ cc : Cl, inL S1 (timesS r (H cc)) = reachB H b (d - (q + 1)) (timesS r (H cc))) := Lib.hid (fun r hr cc => by
      rw [Bool.eq_iff_iff, inL_iff]
      exact goodS_next HLAY.out HML.out HDI.out (by omega) HG1.out HLQ.out hr cc)
     obtain ⟨k, hk⟩ : ∃ k, k = d - (q + 1) := ⟨_, rfl⟩
     have hkd : d - q = k + 1 := by omega
     have HKD := Lib.hid hkd
     rw [← hk] at HGN
     clear hLq hLl hLs hk hkd
     go_wp2
     clear hcell
     go_loopw [71] (fun iv wr => ∃ (j : Nat) (S : List ByteArray), j ≤ mL ∧ iv = .int .i64 j ∧ Hid (SetX Tryz.prog wr 9 4 bq S) ∧ Hid (MarkS H b L k j 0 S) ∧ S.length ≤ 3 * j ∧ Hid (w7.grownBy wr (some bq))) (fun iv _ => mL - (intOf iv).toNat)
     case atStart => exact ⟨0, [], Nat.zero_le _, rfl, HM8, Lib.hid (markS_start L k), Nat.le_refl _, Lib.hid (grown_any (Below.refl _ _) _)⟩
     case round =>
      obtain ⟨j, S, hj, rfl, HM, HMK, hSl, HGR⟩ := hrel
      rename World => wo
      by_cases hjt : j < mL
      ·obtain ⟨b2, o2, r, hBL, _, hr, hcr⟩ := (strs_map HLS.out HM8.out HGR.out).at_str (k := j) (by rw [HLL.out]; exact hjt)
       subst hBL
       have hrN := Lib.hid (HLR.out.2 r (List.mem_of_getElem? hr))
       have HRM := Lib.hid (List.mem_of_getElem? hr)
       have HRJ := Lib.hid hr
       have hjI : (j : Int) < (mL : Int) := by omega
       have hrz : r.size ≤ 16777216 := by have := hrN.out.2; have := hrN.out.st; omega
       clear hr
       go_wp2
       go_loopw [77] (fun iv wr => ∃ (x : Nat) (S : List ByteArray), x ≤ 3 ∧ iv = .int .i64 x ∧ Hid (SetX Tryz.prog wr 9 4 bq S) ∧ Hid (MarkS H b L k j x S) ∧ S.length ≤ 3 * j + x ∧ Hid (w7.grownBy wr (some bq))) (fun iv _ => 3 - (intOf iv).toNat)
       case atStart => exact ⟨0, S, by omega, rfl, HM, HMK, by omega, HGR⟩
       case round =>
        obtain ⟨x, S, hx3, rfl, HM, HMK, hSl, HGR⟩ := hrel
        rename World => wq
        by_cases hxt : x < 3
        ·obtain ⟨b3, o3, hd, hA3, _, hx, hcx⟩ := (strs_map HS8.out.h.recs HM8.out HGR.out).at_str (k := x) (by exact hxt)
         injection hA3 with hA3
         injection hA3 with y1 y2 _
         subst y1 y2
         rw [Nat.zero_add] at hcx
         rw [hdN_lt hxt] at hx
         injection hx with hx
         subst hx
         have hxI : (x : Int) < 3 := by omega
         have hcN := Lib.hid (HC.out (hdN x))
         have hft := Lib.hid (rowN_fits hrN.out hcN.out)
         have hcz : (H (hdN x)).size ≤ 16777216 := by have := hcN.out.2; have := hcN.out.st; omega
         have hzz : (timesS r (H (hdN x))).size ≤ 16777216 := by have := (hrN.out.times hcN.out).2; have := hrN.out.st; omega
         have HSQ := Lib.hid (HS8.out.mapw HM8.out hqb HGR.out)
         have HS1 := Lib.hid (HS1.out.kept HGR.out (fun e => by injection e with e; omega))
         have HRCH := Lib.hid (HGN.out r HRM.out (hdN x))
         have CC : Hid (∀ u : World, Below wq.heap.size wq u → u.cell? ⟨g, q + 1, none⟩ = some (.map (some b1))) := Lib.hid (fun u hu => ((HSQ.out.up hu).cell HE1.out).1)
         have CQ : Hid (∀ u : World, Below wq.heap.size wq u → u.cell? ⟨g, q, none⟩ = some (.map (some bq))) := Lib.hid (fun u hu => ((HSQ.out.up hu).cell HQ2.out).1)
         have hwq1 : IntKind.i64.wrap ((q : Int) + 1) = (q : Int) + 1 := wrap_id (by omega)
         have hq1m : (q : Int) + 1 < (m2 : Int) := by omega
         have hq10 : (0 : Int) ≤ (q : Int) + 1 := by omega
         have hqtn : ((q : Int) + 1).toNat = q + 1 := by omega
         go_upto_region 19 with fail
         clear hcx
         refine wp_region_held_drew (S := fun u => u.cell? ⟨g, q + 1, none⟩ = some (.map (some b1))) (by kernel_rfl) (CC.out _ (Below.refl _ _).drew) (fun hHeld => ?_)
         refine takeH 0 81 (v := ?_) rfl (by kernel_rfl) (by kernel_rfl) (by kernel_rfl) (fun _ _ _ h => h) (Or.inl ⟨by rfl, ?_⟩) (by assumption) ?_
         rotate_left
         ·(intro w hSw; (try dsimp only at hSw); go_simp) <;> with_reducible rfl
         (try simp only [Act.put, List.setIfInBounds_toArray, List.set_cons_zero, List.set_cons_succ])
         refine takeH 1 82 (v := ?_) rfl (by kernel_rfl) (by kernel_rfl) (by kernel_rfl) (fun _ _ _ h => h) (Or.inl ⟨by rfl, ?_⟩) (by assumption) ?_
         rotate_left
         ·(intro w hSw; (try dsimp only at hSw); go_simp) <;> with_reducible rfl
         (try simp only [Act.put, List.setIfInBounds_toArray, List.set_cons_zero, List.set_cons_succ])
         refine takeH 2 83 (v := ?_) rfl (by kernel_rfl) (by kernel_rfl) (by kernel_rfl) (fun _ _ _ h => h) (Or.inl ⟨by rfl, ?_⟩) (by assumption) ?_
         rotate_left
         ·(intro w hSw; (try dsimp only at hSw); go_simp) <;> with_reducible rfl
         (try simp only [Act.put, List.setIfInBounds_toArray, List.set_cons_zero, List.set_cons_succ])
         refine takeH 3 84 (v := ?_) rfl (by kernel_rfl) (by kernel_rfl) (by kernel_rfl) (fun _ _ _ h => h) (Or.inl ⟨by rfl, ?_⟩) (by assumption) ?_
         rotate_left
         ·(intro w hSw; (try dsimp only at hSw); go_simp) <;> with_reducible rfl
         (try simp only [Act.put, List.setIfInBounds_toArray, List.set_cons_zero, List.set_cons_succ])
         refine takeH 4 85 (v := ?_) rfl (by kernel_rfl) (by kernel_rfl) (by kernel_rfl) (fun _ _ _ h => h) (Or.inl ⟨by rfl, ?_⟩) (by assumption) ?_
         rotate_left
         ·(intro w hSw; (try dsimp only at hSw); go_simp) <;> with_reducible rfl
         (try simp only [Act.put, List.setIfInBounds_toArray, List.set_cons_zero, List.set_cons_succ])
         refine takeH 5 86 (v := ?_) rfl (by kernel_rfl) (by kernel_rfl) (by kernel_rfl) (fun _ _ _ h => h) (Or.inl ⟨by rfl, ?_⟩) (by assumption) ?_
         rotate_left
         ·(intro w hSw; (try dsimp only at hSw); go_simp) <;> with_reducible rfl
         (try simp only [Act.put, List.setIfInBounds_toArray, List.set_cons_zero, List.set_cons_succ])
         refine takeH 6 87 (v := ?_) rfl (by kernel_rfl) (by kernel_rfl) (by kernel_rfl) (fun _ _ _ h => h) (Or.inl ⟨by rfl, ?_⟩) (by assumption) ?_
         rotate_left
         ·(intro w hSw; (try dsimp only at hSw); go_simp) <;> with_reducible rfl
         (try simp only [Act.put, List.setIfInBounds_toArray, List.set_cons_zero, List.set_cons_succ])
         refine wpAnyH_ready (rs := [7]) (by kernel_rfl) (by simp) ?_
         refine AllReadyH.cons (o := _) rfl (fun K hK => ?_) AllReadyH.nil
         go_simp
         refine (impl_times hrz hcz hft.out).mono ?_; rintro e wy ⟨rfl, hby⟩
         have hbz := below_of_drew hby
         try go_wp2_with fail
         refine hK.out _ _ (CC.out _ hbz) (fun hHeld => ?_)
         clear hK K
         (try simp only [Act.put, List.setIfInBounds_toArray, List.set_cons_zero, List.set_cons_succ])
         have lk := (HS1.out.up hbz).look (t := 110) KS Tryz.underlying110 Tryz.underlying9 Tryz.underlying4 (by kernel_rfl) hzz
         rw [HRCH.out] at lk
         refine wpAnyH_ready (rs := [8]) (by kernel_rfl) (by simp) ?_
         refine AllReadyH.cons (o := _) rfl (fun K hK => ?_) AllReadyH.nil
         go_simp
         refine hK.out _ _ (CC.out _ hbz) (fun hHeld => ?_)
         clear hK K
         (try simp only [Act.put, List.setIfInBounds_toArray, List.set_cons_zero, List.set_cons_succ])
         refine wpAnyH_done (by kernel_rfl) ?_ _
         (try simp only [Act.put, List.setIfInBounds_toArray, List.set_cons_zero, List.set_cons_succ])
         have HBZ := Lib.hid hbz
         have HMZ := Lib.hid (HM.out.up hbz)
         have HGZ := Lib.hid (grownBy_trans HGR.out (grown_any hbz _))
         clear hHeld hwq1 hq1m hq10 hqtn lk hby hbz
         rcases hrch : reachB H b k (timesS r (H (hdN x)))
         ·have HMN := Lib.hid (markS_no HMK.out HRJ.out hxt hrch)
          clear hrch
          go_wp2
          go_roundw
          case rel => exact ⟨x + 1, S, by omega, by go_num, HMZ, HMN, by omega, HGZ⟩
          case measure => simp [intOf]; omega
         ·have HMN := Lib.hid (markS_yes HMK.out HRJ.out hxt hrch)
          have cq := CQ.out _ HBZ.out
          have hlen : S.length ≤ 16777216 := by omega
          have HLEN := Lib.hid hlen
          clear hrch hlen
          go_wp2_with (first | (at_mapUpdate; go_must ((refine wpList_setx_add rfl (.tmp 93) (.tmp 94) (.const (.bool true)) 110 rfl KS Tryz.underlying110 Tryz.underlying9 Tryz.underlying4 rfl HMZ.out HLEN.out rfl rfl hrz ?_; intro wv hmv hgv))))
          go_roundw
          case rel => exact ⟨x + 1, S ++ [r], by omega, by go_num, Lib.hid hmv, HMN, by rw [List.length_append, List.length_singleton]; omega, Lib.hid (grownBy_trans HGZ.out hgv)⟩
          case measure => simp [intOf]; omega
        ·obtain rfl : x = 3 := by omega
         have hxI : ¬ ((3 : Nat) : Int) < 3 := by omega
         go_wp2
         go_roundw
         case rel => exact ⟨j + 1, S, by omega, by go_num, HM, Lib.hid (markS_row HMK.out HRJ.out), by omega, HGR⟩
         case measure => simp [intOf]; omega
      ·obtain rfl : j = mL := by omega
       have hjI : ¬ (j : Int) < (j : Int) := by omega
       have hwq : IntKind.i64.wrap ((q : Int) - 1) = (q : Int) - 1 := wrap_id (by omega)
       have HGS := Lib.hid (markS_done (d := d) HLQ.out HKD.out (by have := HMK.out; rw [← HLL.out] at this; exact this))
       have HSQ := Lib.hid (HS8.out.mapw HM8.out hqb HGR.out)
       have hzo : bq < wo.heap.size := by have := HGR.out.size; omega
       have HGQ := Lib.hid (((HG8.out.kept HGR.out (fun b1 S1 _ hlt e => by injection e with e; omega)).more (show bq ≤ wo.heap.size by omega)).next HQ2.out hqb hzo HM.out HGS.out (by omega))
       go_wp2
       go_roundw
       case rel => exact ⟨q, gl2, rfl, by omega, HSQ, HGQ⟩
       case measure => simp [intOf] <;> omega
    ·obtain rfl : i = 0 := by omega
     have he : (((0 : Nat) : Int) - 1) = -1 := rfl
     rw [he]
     clear he
     have hI : decide ((0 : Int) ≤ -1) = false := decide_eq_false (by omega)
     have hGW := (leastW_leads d a v HLW.out).2
     have hvl := (leastW_leads d a v HLW.out).1
     have HGW := Lib.hid hGW
     have HVL := Lib.hid hvl
     clear hGW hvl
     go_wp2
     clear hI
     go_loopw [19, 20, 21] (fun tv rv iv wx => ∃ (i j : Nat) (pre rest : List Cl), tv = .string (wT pre) ∧ rv = .string (goW H a pre) ∧ iv = .int .i64 (i : Int) ∧ i ≤ j + 1 ∧ j + 1 ≤ i ∧ pre.length = j ∧ j ≤ d ∧ Hid (pre ++ rest = v) ∧ Hid (leastW H b (d - j) (goW H a pre) = some rest) ∧ Hid (Below wr.heap.size wr wx)) (fun _ _ iv _ => m2 - (intOf iv).toNat)
     case atStart => exact ⟨1, 0, [], v, rfl, rfl, rfl, by omega, by omega, rfl, by omega, Lib.hid rfl, Lib.hid (by rw [Nat.sub_zero]; exact HLW.out), Lib.hid (Below.refl _ _)⟩
     case round =>
      obtain ⟨i, j, pre, rest, rfl, rfl, rfl, hi1, hi2, hpj, hjd, HPR, HLR, HB⟩ := hrel
      rename World => wx
      obtain ⟨R, hR⟩ : ∃ u, u = goW H a pre := ⟨_, rfl⟩
      have HR := Lib.hid hR
      rw [← hR] at HLR ⊢
      clear hR
      by_cases hit : i < m2
      ·have hiI : (i : Int) < (m2 : Int) := by omega
       have hi0 : (0 : Int) ≤ (i : Int) := by omega
       obtain ⟨c0, v', hrest, hlw', hlow⟩ := leastW_step (k := d - (j + 1)) (by have := HLR.out; rwa [show d - j = d - (j + 1) + 1 by omega] at this)
       have HREST := Lib.hid hrest
       have HLW2 := Lib.hid hlw'
       have HLOW := Lib.hid hlow
       have hRN : RowN st R := by rw [HR.out]; exact goW_row HC.out pre a HRA.out
       have HRN := Lib.hid hRN
       have hRz : R.size ≤ 16777216 := by have := hRN.2; have := hRN.st; omega
       obtain ⟨b1, S1, e1, _, _, hs1, hg1, _⟩ := HG.out (j + 1) (Nat.zero_le _) (by omega)
       have e1' : gl[i]? = some (some b1) := by rw [show i = j + 1 by omega]; exact e1
       have HE1 := Lib.hid e1'
       have HS1 := Lib.hid hs1
       obtain ⟨L, hL⟩ : ∃ L, M[j]? = some L := ⟨_, List.getElem?_eq_getElem (by rw [HML.out]; omega)⟩
       have hRL : R ∈ L := by
        refine ((HLAY.out j L hL).2.2 R).2 ?_
        have := dist_pre (w := pre) (v := rest) HDI.out (by rw [HPR.out]; exact HVL.out) (by rw [HPR.out]; exact HGW.out)
        rw [hpj, ← HR.out] at this
        exact this
       have HGN : Hid (∀ cc : Cl, inL S1 (timesS R (H cc)) = reachB H b (d - (j + 1)) (timesS R (H cc))) := Lib.hid (fun cc => by
        rw [Bool.eq_iff_iff, inL_iff]
        exact goodS_next HLAY.out HML.out HDI.out (by omega) hg1 hL hRL cc)
       have hc3 : c0.val < 3 := c0.isLt
       obtain ⟨kk, hkk⟩ : ∃ kk, kk = d - (j + 1) := ⟨_, rfl⟩
       rw [← hkk] at HGN HLW2 HLOW
       have HKK := Lib.hid hkk
       clear hrest hlw' hlow hRN e1 e1' hs1 hg1 hL hRL hkk
       have HLT := Lib.hid (lit_strs2 wx 9 [⟨#[98]⟩, ⟨#[112]⟩, ⟨#[115]⟩])
       have aL : Below wx.heap.size wx (wx.alloc (.cells #[.string ⟨#[98]⟩, .string ⟨#[112]⟩, .string ⟨#[115]⟩] 9)) := by (repeat' (first | (with_reducible exact Below.refl _ _) | (with_reducible assumption) | (with_reducible refine below_drewN ?_ _) | (with_reducible refine Below.drew ?_) | (with_reducible refine below_alloc ?_ _) | (with_reducible refine Below.alloc ?_ ?_ _) | (with_reducible refine Below.setCell ?_ ?_ _) | (with_reducible refine below_go ?_ (by with_reducible assumption)) | (with_reducible refine below_then (by with_reducible assumption) ?_ ?_) | go_size))
       change Hid (Strs (wx.alloc (.cells #[.string ⟨#[98]⟩, .string ⟨#[112]⟩, .string ⟨#[115]⟩] 9)) (some ⟨wx.heap.size, 0, none⟩) [⟨#[98]⟩, ⟨#[112]⟩, ⟨#[115]⟩]) at HLT
       have HBL := Lib.hid (below_go HB.out aL)
       clear aL
       go_upto_region 28 with fail
       obtain ⟨wl, hwl⟩ : ∃ u, u = wx.alloc (.cells #[.string ⟨#[98]⟩, .string ⟨#[112]⟩, .string ⟨#[115]⟩] 9) := ⟨_, rfl⟩
       rw [← hwl] at HLT HBL ⊢
       obtain ⟨qb, hqb⟩ : ∃ u, u = wx.heap.size := ⟨_, rfl⟩
       rw [← hqb] at HLT ⊢
       clear hwl hqb
       go_wp2
       go_loopw [19, 20, 106] (fun tv rv xv wy => ∃ x : Nat, x ≤ c0.val ∧ tv = .string (wT pre) ∧ rv = .string R ∧ xv = .int .i64 (x : Int) ∧ Hid (Below wl.heap.size wl wy)) (fun _ _ xv _ => 3 - (intOf xv).toNat)
       case atStart => exact ⟨0, Nat.zero_le _, rfl, rfl, rfl, Lib.hid (Below.refl _ _)⟩
       case round =>
        obtain ⟨x, hxc, rfl, rfl, rfl, HBW⟩ := hrel
        rename World => wy
        have hxI : (x : Int) < 3 := by omega
        obtain ⟨b3, o3, lt, hA3, _, hx, hcx⟩ := (HLT.out.up HBW.out).at_str (k := x) (by show x < 3; omega)
        injection hA3 with hA3
        injection hA3 with y1 y2 _
        subst y1 y2
        rw [Nat.zero_add] at hcx
        obtain ⟨cl, hcv, hcl⟩ := litB (j := x) (by omega)
        rw [hcl] at hx
        injection hx with hx
        subst hx
        have HBR := Lib.hid (below_go HBL.out HBW.out)
        have HSY := Lib.hid (HS.out.up HBR.out)
        have HSL := Lib.hid (HH.out.up HSY.out.b)
        have hcN := Lib.hid (HC.out cl)
        have hft := Lib.hid (rowN_fits HRN.out hcN.out)
        have hcz : (H cl).size ≤ 16777216 := by have := hcN.out.2; have := hcN.out.st; omega
        have hzz : (timesS R (H cl)).size ≤ 16777216 := by have := (HRN.out.times hcN.out).2; have := hcN.out.st; omega
        have k0 := HSY.out.k0.cell 0; have k1 := HSY.out.k0.cell 1; have k2 := HSY.out.k0.cell 2; have j0 := HSY.out.k1.cell 0; have j1 := HSY.out.k1.cell 1
        simp only [List.getElem?_cons_zero, List.getElem?_cons_succ] at k0 k1 k2 j0 j1
        clear hcl
        go_wp2_with fail
        clear k0 k1 k2 j0 j1 hcx
        refine (impl_callHead (nm := nm) (s := clT cl) hn HSL.out HK.out).mono ?_; rw [HCH.out]; rintro e wz ⟨rfl, hbz⟩
        go_wp2_with fail
        refine (impl_times hRz hcz hft.out).mono ?_; rintro e wv ⟨rfl, hbv⟩
        have HBV := Lib.hid (below_go (below_go HBW.out hbz) hbv)
        have HSV := Lib.hid ((HSY.out.up hbz).up hbv)
        have HMV := Lib.hid (((HS1.out.up HBR.out).up hbz).up hbv)
        have hce := (HSV.out.cell HE1.out).1
        have lk := HMV.out.look (t := 110) KS Tryz.underlying110 Tryz.underlying9 Tryz.underlying4 (by kernel_rfl) hzz
        rw [HGN.out cl] at lk
        have HWX := Lib.hid (below_go HBL.out HBV.out)
        clear hbz hbv HSL
        by_cases hxl : x < c0.val
        ·have hrf := HLOW.out cl (show cl.val < c0.val by omega)
         rw [hrf] at lk
         clear hrf
         go_wp2
         clear lk hce
         go_roundw
         case rel => exact ⟨x + 1, by omega, rfl, rfl, by go_num, HBV⟩
         case measure => simp [intOf]; omega
        ·obtain rfl : cl = c0 := Fin.ext (by omega)
         have hrt : reachB H b kk (timesS R (H cl)) = true := by rw [reachB, HLW2.out]; rfl
         rw [hrt] at lk
         have hov : ¬ 9223372036854775807 < (wT pre).size + (clT cl).size := by rw [clT_size, wT_size]; omega
         have HWT := Lib.hid (wT_snoc pre cl)
         have HGO : Hid (goW H a (pre ++ [cl]) = timesS R (H cl)) := Lib.hid (by rw [goW_snoc, ← HR.out])
         have hwi : IntKind.i64.wrap ((i : Int) + 1) = ((i + 1 : Nat) : Int) := by rw [wrap_id (by omega)]; omega
         clear hrt
         go_wp2
         clear lk hce
         go_roundw
         case rel => exact ⟨i + 1, j + 1, pre ++ [cl], v', by rw [HWT.out], by rw [HGO.out], by first | rfl | go_num, by omega, by omega, by simp [hpj], by omega, Lib.hid (by rw [List.append_assoc, List.singleton_append, ← HREST.out]; exact HPR.out), Lib.hid (by rw [HGO.out, ← HKK.out]; exact HLW2.out), HWX⟩
         case measure => simp [intOf]; omega
      ·have hiI : ¬ (i : Int) < (m2 : Int) := by omega
       have hrl := (leastW_leads _ _ _ HLR.out).1
       have hr0 : rest = [] := List.length_eq_zero_iff.1 (by omega)
       have HPV : Hid (pre = v) := Lib.hid (by have := HPR.out; rwa [hr0, List.append_nil] at this)
       clear hrl hr0
       go_wp2
       go_ret2
       rw [E.out, HPV.out]
       exact ⟨rfl, below_go HS.out.b HB.out⟩
end Go.Proofs.YtidolgonmimicaaGreat
namespace Go.Proofs.YtidolgonmimicaaGreat
open Go.ChangeShapes Go.WideShapes Go.ChangeAt Go.RowKit Go.Deep
theorem wT_cal (v : List Cl) : calT (wT v) := by
 intro z hz
 rw [nums_data, wT_data, List.map_map, List.mem_map] at hz
 obtain ⟨c, _, rfl⟩ := hz
 rcases cl_cases c with rfl | rfl | rfl <;> decide
theorem few_fact {nm : ByteArray} {st : Nat} {l : List ByteArray} {kb ks a tg : ByteArray} {w : List Cl} (h : rtO nm st l kb ks a tg = some w) {n : Nat} {t : ByteArray} (h1 : 1 ≤ n) (hn : n ≤ w.length) (h6 : n ≤ 6) (ht : t ∈ allT n) :
  t.size = n ∧ goodF nm (st : Int) l kb ks t = true ∧ twoB a (hdAt st l kb ks t t.size) = true ∧ (timesS a (hdAt st l kb ks t t.size) = tg → n = w.length ∧ less t (wT w) = false) := by
 rcases hr : rpB nm st l kb ks a tg
 ·rw [rtO_f hr] at h; cases h
 ·rw [rtO_t hr] at h
  obtain ⟨hk, h4, ha, hb, hne⟩ := rpB_t hr
  have hst := (goodM_st (goodK_t hk).1).1
  obtain ⟨v, hv, rfl⟩ := allT_word n t ht
  have hz : (wT v).size = n := by rw [wT_size]; exact hv
  have hrow := hdAt_good (show 3 ≤ st by omega) (show st ≤ 8 by omega) l kb ks (wT v) (wT v).size
  refine ⟨hz, ?_, ?_, fun e => ?_⟩
  ·rw [goodF, Bool.and_eq_true]
   exact ⟨hk, goodT_of (wT_cal v) (by omega) (by omega)⟩
  ·rw [twoB, ha.1, hrow.1, ha.2, hrow.2]; simp
  ·rw [hz, goW_hd (show 3 ≤ st by omega) (show st ≤ 8 by omega) l kb ks ha n v hv] at e
   obtain ⟨g1, g2⟩ := rep_fewest h e
   exact ⟨by omega, g2 (by omega)⟩
end Go.Proofs.YtidolgonmimicaaGreat
namespace Go.Proofs.YtidolgonmimicaaGreat
open Go.ChangeShapes Go.WideShapes Go.ChangeAt Go.RowKit Go.Deep
def tsV (nm : ByteArray) (st : Int) (l : List ByteArray) (kb ks t : ByteArray) : Bool := if goodF nm st l kb ks t = true then evenRow (hdAt st.toNat l kb ks t t.size) else false
end Go.Proofs.YtidolgonmimicaaGreat
namespace Go.Proofs.YtidolgonmimicaaGreat
open Go.ChangeShapes Go.WideShapes Go.ChangeAt Go.RowKit Go.Deep
end Go.Proofs.YtidolgonmimicaaGreat
namespace Go.Proofs.YtidolgonmimicaaGreat
open Go.ChangeShapes Go.WideShapes Go.ChangeAt Go.RowKit Go.Deep
def teV (nm : ByteArray) (st : Nat) (l : List ByteArray) (kb ks t : ByteArray) : ByteArray := if goodF nm (st : Int) l kb ks t = true then hdAt st l kb ks t t.size else ⟨#[]⟩
theorem teV_t {nm : ByteArray} {st : Nat} {l : List ByteArray} {kb ks t : ByteArray} (h : goodF nm (st : Int) l kb ks t = true) : teV nm st l kb ks t = hdAt st l kb ks t t.size := if_pos h
theorem teV_f {nm : ByteArray} {st : Nat} {l : List ByteArray} {kb ks t : ByteArray} (h : goodF nm (st : Int) l kb ks t = false) : teV nm st l kb ks t = ⟨#[]⟩ := if_neg (by rw [h]; simp)
end Go.Proofs.YtidolgonmimicaaGreat
namespace Go.Proofs.YtidolgonmimicaaGreat
open Go.ChangeShapes Go.WideShapes Go.ChangeAt Go.RowKit Go.Deep
def PaP (nm : ByteArray) (st : Nat) (l : List ByteArray) (kb ks t : ByteArray) (m : Nat) : Prop :=
 m ≤ 40320 ∧ (goodF nm (st : Int) l kb ks t = true → IsOrd st (hdAt st l kb ks t t.size) m) ∧ (goodF nm (st : Int) l kb ks t = false → m = 0)
theorem PaP.uniq {nm : ByteArray} {st : Nat} {l : List ByteArray} {kb ks t : ByteArray} {m k : Nat} (h : PaP nm st l kb ks t m) (g : PaP nm st l kb ks t k) : m = k := by
 rcases hg : goodF nm (st : Int) l kb ks t
 ·rw [h.2.2 hg, g.2.2 hg]
 ·exact (h.2.1 hg).uniq (g.2.1 hg)
end Go.Proofs.YtidolgonmimicaaGreat
namespace Go.Proofs
open Go.Shelf
def Tryz.lays105_ren : Go.Shelf.Ren := ⟨fun | 105 => 86 | 212 => 171 | 99 => 172 | 165 => 173 | 166 => 174 | 170 => 175 | 169 => 176 | 263 => 217 | 264 => 218 | 206 => 219 | 240 => 220 | 241 => 221 | 276 => 248 | 277 => 249 | n => n, fun | 9 => 9 | 3 => 3 | 4 => 4 | 20 => 20 | 0 => 0 | 46 => 149 | 109 => 150 | 5 => 5 | 72 => 154 | 76 => 158 | 51 => 178 | 146 => 179 | 53 => 85 | 148 => 181 | 70 => 152 | 37 => 22 | 75 => 157 | 127 => 183 | 164 => 198 | 80 => 108 | n => n, fun | n => n⟩
end Go.Proofs
namespace Go.Proofs.YtidolgonmimicaaGreat
open Go.ChangeShapes Go.WideShapes Go.ChangeAt Go.RowKit Go.Deep
def repT (t : ByteArray) (m : Nat) : ByteArray := ⟨(Lib.repeatL t.data.toList m).toArray⟩
def WhP (nm : ByteArray) (st : Nat) (l : List ByteArray) (kb ks t : ByteArray) (x : ByteArray) (ok : Bool) : Prop :=
 ∃ m, PaP nm st l kb ks t m ∧ ok = (goodF nm (st : Int) l kb ks t && decide (m * t.size ≤ 60)) ∧ x = if ok = true then repT t m else ⟨#[]⟩
theorem WhP.uniq {nm : ByteArray} {st : Nat} {l : List ByteArray} {kb ks t x y : ByteArray} {a b : Bool} (h : WhP nm st l kb ks t x a) (g : WhP nm st l kb ks t y b) : a = b ∧ x = y := by
 obtain ⟨m, h1, h2, h3⟩ := h
 obtain ⟨k, g1, g2, g3⟩ := g
 obtain rfl := h1.uniq g1
 obtain rfl : a = b := by rw [h2, g2]
 exact ⟨rfl, by rw [h3, g3]⟩
def WhR (nm : ByteArray) (st : Nat) (l : List ByteArray) (kb ks t : ByteArray) (w : World) (e : Ending) (w' : World) : Prop :=
 ∃ (x : ByteArray) (ok : Bool), e = .returned (.tuple #[.string x, .bool ok]) ∧ WhP nm st l kb ks t x ok ∧ Below w.heap.size w w'
theorem WhR.mk {nm : ByteArray} {st : Nat} {l : List ByteArray} {kb ks t : ByteArray} {w w' : World} {e : Ending} (x : ByteArray) (ok : Bool) (he : e = .returned (.tuple #[.string x, .bool ok])) (h1 : WhP nm st l kb ks t x ok) (h2 : Below w.heap.size w w') : WhR nm st l kb ks t w e w' := ⟨x, ok, he, h1, h2⟩
end Go.Proofs.YtidolgonmimicaaGreat
namespace Go.Proofs.YtidolgonmimicaaGreat
open Go.ChangeShapes Go.WideShapes Go.ChangeAt Go.RowKit Go.Deep
end Go.Proofs.YtidolgonmimicaaGreat
namespace Go.Proofs.YtidolgonmimicaaGreat
open Go.ChangeShapes Go.WideShapes Go.ChangeAt Go.RowKit Go.Deep
set_option maxHeartbeats 2000000 in
theorem spec_TouchEndG {A : Option Addr} {n c st : Nat} {nm : ByteArray} {l : List ByteArray} {kb ks t : ByteArray} {w : World} (hn : l.length = n) (h : Strs w A l) (hz : n ≤ 1048576) (hs : ∀ s ∈ l, s.size ≤ 16777216) (hnm : nm.size ≤ 16777216) (h9 : st ≤ 1000) (hkb : kb.size ≤ 16777216) (hks : ks.size ≤ 16777216) (ht : t.size ≤ 16777216) (hcap : n ≤ c) :
  Calls Tryz.prog 38 #[.agg #[.string nm, .int .i64 st, .slice A n c], .agg #[.string kb, .string ks], .string t] w fun e w' => e = .returned (.tuple #[.string (teV nm st l kb ks t), .bool (goodF nm (st : Int) l kb ks t)]) ∧ Below w.heap.size w w' := by
 have b0 : Below w.heap.size w ((w.alloc (.cells ⟨[.string nm, .int .i64 st, .slice A n c]⟩ 25)).alloc (.cells ⟨[.string kb, .string ks]⟩ 27)) := by (repeat' (first | (with_reducible exact Below.refl _ _) | (with_reducible assumption) | (with_reducible refine below_drewN ?_ _) | (with_reducible refine Below.drew ?_) | (with_reducible refine below_alloc ?_ _) | (with_reducible refine Below.alloc ?_ ?_ _) | (with_reducible refine Below.setCell ?_ ?_ _) | (with_reducible refine below_go ?_ (by with_reducible assumption)) | (with_reducible refine below_then (by with_reducible assumption) ?_ ?_) | go_size))
 have K0 := (Blk.at_ w 25 [.string nm, .int .i64 st, .slice A n c] (b := w.heap.size) rfl).alloc (.cells ⟨[.string kb, .string ks]⟩ 27)
 have J0 := Blk.at_ (w.alloc (.cells ⟨[.string nm, .int .i64 st, .slice A n c]⟩ 25)) 27 [.string kb, .string ks] (b := w.heap.size + 1) (by simp)
 have hI : I64 (st : Int) := ⟨by omega, by omega⟩
 have H0 := h.up b0
 have HT := Lib.hid (@teV_t nm st l kb ks t)
 have HF := Lib.hid (@teV_f nm st l kb ks t)
 have HG : Hid (goodF nm st l kb ks t = (goodK nm (st : Int) l kb ks && goodT t)) := Lib.hid rfl
 go_in
 go_wp2_with fail
 refine (spec_l9Asked (nm := nm) (st := (st : Int)) hn H0 hz hs hnm hI hkb hks ht).mono ?_; rintro e w1 ⟨rfl, hb1⟩
 have K1 := K0.up hb1
 have J1 := J0.up hb1
 have H1 := H0.up hb1
 have B1 := below_go b0 hb1
 clear K0 J0 H0 h b0 hb1
 rcases hg : goodF nm st l kb ks t
 ·have e2 := Lib.hid hg
  go_wp2
  go_ret2
  rw [HF.out e2.out, e2.out]
  exact ⟨rfl, B1⟩
 ·have e2 := Lib.hid hg
  have hgg := hg
  rw [HG.out, Bool.and_eq_true] at hgg
  have k0 := K1.cell 0; have k1 := K1.cell 1; have k2 := K1.cell 2; have j0 := J1.cell 0; have j1 := J1.cell 1
  simp only [List.getElem?_cons_zero, List.getElem?_cons_succ] at k0 k1 k2 j0 j1
  go_wp2_with fail
  refine (spec_l9EndP (t := t) hn H1 hgg.1 hgg.2 hcap).mono ?_; rintro e w2 ⟨rfl, hb2⟩
  go_wp2
  go_ret2
  rw [HT.out e2.out, e2.out]
  exact ⟨rfl, below_go B1 hb2⟩
end Go.Proofs.YtidolgonmimicaaGreat
namespace Go.Proofs.YtidolgonmimicaaGreat
open Go.ChangeShapes Go.WideShapes Go.ChangeAt Go.RowKit Go.Deep
end Go.Proofs.YtidolgonmimicaaGreat
namespace Go.Proofs.YtidolgonmimicaaGreat
open Go.ChangeShapes Go.WideShapes Go.ChangeAt Go.RowKit Go.Deep
set_option maxHeartbeats 4000000 in
set_option maxRecDepth 100000 in
theorem spec_l13All {N : Nat} {w : World} (hN : N ≤ 6) :
  Calls Tryz.prog 82 #[.int .i64 (N : Int)] w fun e w' => ∃ (A' : Option Addr) (m c' : Nat), e = .returned (.slice A' m c') ∧ Owned strE 1 9 w' w.heap.size A' m c' (allT N) ∧ Below w.heap.size w w' := by
 have HLT := Lib.hid (fun (k : Nat) (h : k < 6) => allT_lt h)
 have HSZ := Lib.hid allT_size
 have HLE := Lib.hid (fun (k : Nat) (h : k ≤ 6) => allT_le h)
 have HSU := Lib.hid (fun k => show allT (k + 1) = (allT k).flatMap kids from rfl)
 go_in
 go_wp2
 go_loopw [0, 3] (fun i v wr => ∃ (k : Nat) (A' : Option Addr) (m c' : Nat), k ≤ N ∧ v = .slice A' m c' ∧ i = .int .i64 ((N - k : Nat) : Int) ∧ Hid (Owned strE 1 9 wr w.heap.size A' m c' (allT k)) ∧ Hid (Below w.heap.size w wr)) (fun i _ _ => (intOf i).toNat)
 case atStart => exact ⟨0, _, _, _, Nat.zero_le _, rfl, rfl, Lib.hid (own_lit1_at' strE_len w 9 ⟨#[]⟩ rfl (Nat.le_refl _)), Lib.hid (by (repeat' (first | (with_reducible exact Below.refl _ _) | (with_reducible assumption) | (with_reducible refine below_drewN ?_ _) | (with_reducible refine Below.drew ?_) | (with_reducible refine below_alloc ?_ _) | (with_reducible refine Below.alloc ?_ ?_ _) | (with_reducible refine Below.setCell ?_ ?_ _) | (with_reducible refine below_go ?_ (by with_reducible assumption)) | (with_reducible refine below_then (by with_reducible assumption) ?_ ?_) | go_size)))⟩
 case round =>
  obtain ⟨k, A1, m, c1, hk, rfl, rfl, HO, HB⟩ := hrel
  rename World => wo
  by_cases hlt : k < N
  ·have hI : (0 : Int) < ((N - k : Nat) : Int) := by omega
   have hwr : IntKind.i64.wrap (((N - k : Nat) : Int) - 1) = ((N - (k + 1) : Nat) : Int) := by rw [wrap_id (by omega)]; omega
   have hm1 := HLE.out k (by omega)
   have hm2 := HLT.out k (by omega)
   rw [HO.out.len] at hm1 hm2
   obtain ⟨g, rfl, g0, g1, _⟩ := HO.out.at_ (by omega)
   have hsz := HB.out.size
   have HL := Lib.hid HO.out.recs
   have HLL := Lib.hid HO.out.len
   have HSK := Lib.hid (HSZ.out k)
   have HSU1 := Lib.hid (HSU.out k)
   obtain ⟨L, hL⟩ : ∃ u, u = allT k := ⟨_, rfl⟩
   rw [← hL] at HL HLL HSK HSU1
   have HE := Lib.hid (Owned.nil strE_len 9 wo wo.heap.size)
   clear hL
   go_wp2
   go_loopw [4, 14] (fun v i wr => ∃ (j : Nat) (A' : Option Addr) (q c' : Nat), j ≤ m ∧ v = .slice A' q c' ∧ i = .int .i64 j ∧ q ≤ 3 * j ∧ Hid (Owned strE 1 9 wr wo.heap.size A' q c' ((L.take j).flatMap kids)) ∧ Hid (Below wo.heap.size wo wr)) (fun _ i _ => m - (intOf i).toNat)
   case atStart => exact ⟨0, _, _, _, Nat.zero_le _, rfl, rfl, Nat.le_refl _, HE, Lib.hid (Below.refl _ _)⟩
   case round =>
    obtain ⟨j, A2, q, c2, hj, rfl, rfl, hq, HO2, HB2⟩ := hrel
    rename World => wi
    have hs4 := HB2.out.size
    by_cases hlj : j < m
    ·have hI2 : (j : Int) < (m : Int) := by omega
     obtain ⟨b3, o3, x, e3, _, hx, hcx⟩ := (HL.out.up HB2.out).at_str (k := j) (by rw [HLL.out]; exact hlj)
     injection e3 with e3
     injection e3 with e4 e5
     subst e4 e5
     have hxs := HSK.out x (List.mem_of_getElem? hx)
     have HFT := Lib.hid (flat_take hx)
     have hxz : x.size ≤ 6 := by omega
     have hov1 : ¬ 9223372036854775807 < x.size + (⟨#[98]⟩ : ByteArray).size := by have : (⟨#[98]⟩ : ByteArray).size = 1 := rfl; omega
     have hov2 : ¬ 9223372036854775807 < x.size + (⟨#[112]⟩ : ByteArray).size := by have : (⟨#[112]⟩ : ByteArray).size = 1 := rfl; omega
     have hov3 : ¬ 9223372036854775807 < x.size + (⟨#[115]⟩ : ByteArray).size := by have : (⟨#[115]⟩ : ByteArray).size = 1 := rfl; omega
     have HKD := Lib.hid (show kids x = [x ++ ⟨#[98]⟩, x ++ ⟨#[112]⟩, x ++ ⟨#[115]⟩] from rfl)
     have hlit := Lib.hid (lit_strs2 wi 9 [x ++ ⟨#[98]⟩, x ++ ⟨#[112]⟩, x ++ ⟨#[115]⟩])
     clear hx hxs
     simp only [Nat.zero_add] at hcx
     go_wp2_with (first | (at_builtin; go_must ((refine wpList_append_recs Tryz.elStr strE_one rfl (.tmp 18) (.tmp 25) rfl rfl (HO2.out.alloc _) rfl hlit.out rfl ?_ (by decide) ?_ ?_; (focus (first | omega | (simp only [World.size_alloc]; done) | (simp only [World.size_alloc]; omega) | (simp; done) | (simp; omega))); (focus (first | omega | (simp only [World.size_alloc]; done) | (simp only [World.size_alloc]; omega) | (simp; done) | (simp; omega))); intro A6 c6 w6 ho6 hg6 hl6))))
     have hb6 : Below wo.heap.size wo w6 := (HB2.out.alloc hs4 _).trans (grown_base hg6 (by simp; omega) (fun z hz => (HO2.out.range z hz).1))
     go_roundw
     case rel => exact ⟨_, _, _, ⟨j + 1, by omega, A6, _, c6, rfl, by go_num, by omega, Lib.hid (by rw [HFT.out, HKD.out]; exact ho6), Lib.hid hb6⟩, rfl, rfl, rfl⟩
     case measure => simp [intOf]; omega
    ·obtain rfl : j = m := by omega
     have hI2 : ¬ (j : Int) < (j : Int) := by omega
     have HO5 := HO2.out
     rw [List.take_of_length_le (by rw [HLL.out]; omega), ← HSU1.out] at HO5
     have HO6 := Lib.hid (HO5.base_le hsz)
     clear HO5
     have HB6 := Lib.hid (below_go HB.out HB2.out)
     go_wp2
     go_roundw
     case rel => exact ⟨k + 1, _, _, _, by omega, rfl, by go_num, HO6, HB6⟩
     case measure => simp [intOf]; omega
  ·obtain rfl : k = N := by omega
   have hI : ¬ (0 : Int) < ((k - k : Nat) : Int) := by omega
   go_wp2
   go_ret
   exact ⟨_, _, _, rfl, HO.out, HB.out⟩
set_option maxHeartbeats 1000000 in
theorem spec_AllTouches {N : Nat} {w : World} (hN : N ≤ 1000) :
  Calls Tryz.prog 13 #[.int .i64 (N : Int)] w fun e w' => ∃ (A' : Option Addr) (m c' : Nat), e = .returned (.tuple #[.slice A' m c', .bool (inB (N : Int) 1 6)]) ∧ Owned strE 1 9 w' w.heap.size A' m c' (atL N) ∧ m ≤ 729 ∧ Below w.heap.size w w' := by
 go_in
 go_wp2_with fail
 refine (spec_l1In _ _ _ _).mono ?_; rintro e w1 ⟨rfl, rfl⟩
 rcases hb : inB (N : Int) 1 6
 ·have e2 := Lib.hid hb
  go_wp2
  go_ret2
  rw [e2.out, atL_f e2.out]
  exact ⟨none, 0, 0, rfl, Owned.nil strE_len _ _ _, by omega, Below.refl _ _⟩
 ·have e2 := Lib.hid hb
  have h6 := inB_t hb
  clear hb
  go_wp2_with fail
  refine (spec_l13All (N := N) (by omega)).mono ?_; rintro e w2 ⟨A2, m2, c2, rfl, ho, hb2⟩
  have HO := Lib.hid ho
  clear ho
  go_wp2
  go_ret2
  have h7 := allT_le (n := N) (by omega)
  rw [HO.out.len] at h7
  rw [e2.out, atL_t e2.out]
  exact ⟨_, _, _, rfl, HO.out, h7.1, hb2⟩
end Go.Proofs.YtidolgonmimicaaGreat
namespace Go.Proofs.YtidolgonmimicaaGreat
open Go.ChangeShapes Go.WideShapes Go.ChangeAt Go.RowKit Go.Deep
set_option maxHeartbeats 16000000 in
set_option maxRecDepth 100000 in
theorem law_Fewest (A0 : Option Addr) (c0 : Nat) (l0 : List Int) (A1 : Option Addr) (c1 : Nat) (l1 : List Int) (w : World) (h0 : Recs byteE 1 w A0 l0) (hm0 : l0.length ≤ 9223372036854775807) (hb0 : ∀ x ∈ l0, 0 ≤ x ∧ x ≤ 255)
  (h1 : Recs byteE 1 w A1 l1) (hm1 : l1.length ≤ 9223372036854775807) (hb1 : ∀ x ∈ l1, 0 ≤ x ∧ x ≤ 255) :
  Calls Tryz.prog 5 #[.slice A0 l0.length c0, .slice A1 l1.length c1] w fun e w' => e = .returned (.bool true) ∧ Below w.heap.size w w' := by
 have S0 := Lib.hid (show Src w A0 l0.length from ⟨l0, rfl, hm0, hb0, h0⟩)
 clear h0 hb0 h1 hb1
 by_cases hz : wrap64 ((l0.length : Int) + (l1.length : Int)) ≤ 1048576
 ·have hI : ¬ 1048576 < wrap64 ((l0.length : Int) + (l1.length : Int)) := by omega
  clear hz
  go_in
  go_wp2_with fail
  clear hI
  refine (draw_RepairTouch S0.out).mono ?_; rintro e v ⟨nm, st, B, m, d, L, kb, ks, f, tg, rfl, hgm, h3, h6, hl12, zk, zs, hf8, htg, ho, hv⟩
  have hnm := goodM_name hgm
  have HLS : Hid (∀ s ∈ L, s.size ≤ 16777216) := Lib.hid (fun s hs => by have := goodM_changes hgm s hs; omega)
  have HL := Lib.hid ho.len
  have hcap := ho.cap.1
  have z : m ≤ 1048576 := by have := HL.out; omega
  have hnm2 : nm.size ≤ 16777216 := by omega
  have h9 : st ≤ 1000 := by omega
  have zk2 : kb.size ≤ 16777216 := by omega
  have zs2 : ks.size ≤ 16777216 := by omega
  have zf2 : f.size ≤ 16777216 := by omega
  have zg2 : tg.size ≤ 16777216 := by omega
  have a1 : Below v.heap.size v ((v.alloc (.cells #[.string nm, .int .i64 (st : Int), .slice B m d] 25)).alloc (.cells #[.string kb, .string ks] 27)) := by (repeat' (first | (with_reducible exact Below.refl _ _) | (with_reducible assumption) | (with_reducible refine below_drewN ?_ _) | (with_reducible refine Below.drew ?_) | (with_reducible refine below_alloc ?_ _) | (with_reducible refine Below.alloc ?_ ?_ _) | (with_reducible refine Below.setCell ?_ ?_ _) | (with_reducible refine below_go ?_ (by with_reducible assumption)) | (with_reducible refine below_then (by with_reducible assumption) ?_ ?_) | go_size))
  have K := ((Blk.at_ v 25 [.string nm, .int .i64 (st : Int), .slice B m d] (b := v.heap.size) rfl).alloc (.cells #[.string kb, .string ks] 27))
  have J := (Blk.at_ (v.alloc (.cells #[.string nm, .int .i64 (st : Int), .slice B m d] 25)) 27 [.string kb, .string ks] (b := v.heap.size + 1) (by simp))
  have R := Lib.hid (ho.recs.up a1)
  have HW := Lib.hid (below_go hv a1)
  clear hv a1 hgm ho
  go_upto_region 4 with fail
  obtain ⟨u, hu⟩ : ∃ u, u = ((v.alloc (.cells #[.string nm, .int .i64 (st : Int), .slice B m d] 25)).alloc (.cells #[.string kb, .string ks] 27)) := ⟨_, rfl⟩
  rw [← hu] at K J R HW ⊢
  obtain ⟨p, hp⟩ : ∃ u, u = v.heap.size := ⟨_, rfl⟩
  rw [← hp] at K J ⊢
  clear hu hp
  obtain ⟨o, hoo⟩ : ∃ u, u = rtO nm st L kb ks f tg := ⟨_, rfl⟩
  have HO := Lib.hid hoo
  clear hoo
  have kc0 := K.cell 0; have kc1 := K.cell 1; have kc2 := K.cell 2; have jc0 := J.cell 0; have jc1 := J.cell 1
  simp only [List.getElem?_cons_zero, List.getElem?_cons_succ] at kc0 kc1 kc2 jc0 jc1
  go_wp2_with fail
  refine (impl_RepairTouch (nm := nm) (a := f) (b := tg) HL.out R.out z HLS.out hnm2 h9 zk2 zs2 zf2 zg2).mono ?_; rw [← HO.out]; rintro e y2 ⟨rfl, hy⟩
  clear kc0 kc1 kc2 jc0 jc1
  replace K := K.up hy
  replace J := J.up hy
  replace R := Lib.hid (R.out.up hy)
  replace HW := Lib.hid (below_go HW.out hy)
  clear hy
  have kc0 := K.cell 0; have kc1 := K.cell 1; have kc2 := K.cell 2; have jc0 := J.cell 0; have jc1 := J.cell 1
  simp only [List.getElem?_cons_zero, List.getElem?_cons_succ] at kc0 kc1 kc2 jc0 jc1
  go_wp2_with fail
  refine (spec_RepairTouch (nm := nm) (a := f) (b := tg) HL.out R.out z HLS.out hnm2 h9 zk2 zs2 zf2 zg2 hcap).mono ?_; rw [← HO.out]; rintro e y3 ⟨rfl, hy⟩
  clear kc0 kc1 kc2 jc0 jc1
  replace K := K.up hy
  replace J := J.up hy
  replace R := Lib.hid (R.out.up hy)
  replace HW := Lib.hid (below_go HW.out hy)
  clear hy
  rcases o with _ | wd
  ·simp only [lstT, Option.isSome]
   go_wp2
   go_ret
   exact ⟨rfl, HW.out⟩
  ·have HF := Lib.hid (fun (n : Nat) (t : ByteArray) => few_fact (n := n) (t := t) HO.out.symm)
   have hbz0 : (wT wd).size = wd.length := wT_size wd
   simp only [lstT, Option.isSome]
   obtain ⟨bst, hbst⟩ : ∃ u, u = wT wd := ⟨_, rfl⟩
   rw [← hbst] at HF hbz0 ⊢
   clear hbst
   obtain ⟨ln, hln⟩ : ∃ u, u = wd.length := ⟨_, rfl⟩
   rw [← hln] at HF hbz0
   clear hln
   go_wp2
   have HWL := HW
   go_loopw [13] (fun nv wr => ∃ k : Nat, 1 ≤ k ∧ k ≤ 5 ∧ nv = .int .i64 (k : Int) ∧ Hid (Below y3.heap.size y3 wr)) (fun nv _ => 6 - (intOf nv).toNat)
   case atStart => exact ⟨1, Nat.le_refl _, by omega, rfl, Lib.hid (Below.refl _ _)⟩
   case round =>
    obtain ⟨k, hk1, hk5, rfl, HBR⟩ := hrel
    rename World => wr
    have hwk : IntKind.i64.wrap ((k : Int) + 1) = ((k + 1 : Nat) : Int) := by rw [wrap_id (by omega)]; omega
    by_cases hlt : k ≤ bst.size
    ·have hI1 : (k : Int) ≤ (bst.size : Int) := by omega
     by_cases h4 : k ≤ 4
     ·have hI2 : (k : Int) ≤ 4 := by omega
      have hin : inB (k : Int) 1 6 = true := by rw [inB]; simp; omega
      have HAT := Lib.hid (atL_t hin)
      have HY := HBR.out
      replace K := K.up HY
      replace J := J.up HY
      replace R := Lib.hid (R.out.up HY)
      replace HW := Lib.hid (below_go HW.out HY)
      go_wp2_with fail
      refine (spec_AllTouches (N := k) (by omega)).mono ?_; rw [hin, HAT.out]; rintro e y4 ⟨A3, m3, c3, rfl, ho3, hm3, hy⟩
      have Q1 := Lib.hid ho3.len
      have Q2 := Lib.hid ho3.recs
      have HY4 := Lib.hid (below_go HY hy)
      clear ho3 hin HY
      replace K := K.up hy
      replace J := J.up hy
      replace R := Lib.hid (R.out.up hy)
      replace HW := Lib.hid (below_go HW.out hy)
      clear hy
      go_wp2
      go_loopw [80] (fun iv wq => ∃ i : Nat, i ≤ m3 ∧ iv = .int .i64 (i : Int) ∧ Hid (Below y4.heap.size y4 wq)) (fun iv _ => m3 - (intOf iv).toNat)
      case atStart => exact ⟨0, Nat.zero_le _, rfl, Lib.hid (Below.refl _ _)⟩
      case round =>
       obtain ⟨i, hi, rfl, HBQ⟩ := hrel
       rename World => wq
       by_cases hil : i < m3
       ·obtain ⟨b1, o1, t, hAT, _, ht, hct⟩ := (Q2.out.up HBQ.out).at_str (k := i) (by rw [Q1.out]; exact hil)
        subst hAT
        have hkI : (i : Int) < (m3 : Int) := by omega
        obtain ⟨t1, t2, t3, t4⟩ := HF.out k t hk1 (by omega) (by omega) (List.mem_of_getElem? ht)
        have HGF := Lib.hid t2
        have HTE := Lib.hid (teV_t t2)
        have HTW := Lib.hid t3
        have HT4 := Lib.hid t4
        have htz : t.size ≤ 16777216 := by omega
        have HY := HBQ.out
        replace K := K.up HY
        replace J := J.up HY
        replace R := Lib.hid (R.out.up HY)
        clear ht t2 t3 t4
        have kc0 := K.cell 0; have kc1 := K.cell 1; have kc2 := K.cell 2; have jc0 := J.cell 0; have jc1 := J.cell 1
        simp only [List.getElem?_cons_zero, List.getElem?_cons_succ] at kc0 kc1 kc2 jc0 jc1
        go_wp2_with fail
        refine (spec_TouchEndG (nm := nm) (t := t) HL.out R.out z HLS.out hnm2 h9 zk2 zs2 htz hcap).mono ?_; rw [HGF.out, HTE.out]; rintro e y5 ⟨rfl, hy⟩
        clear kc0 kc1 kc2 jc0 jc1
        have HY5 := Lib.hid (below_go HY hy)
        clear hy HY
        obtain ⟨hr, hhr⟩ : ∃ u, u = hdAt st L kb ks t t.size := ⟨_, rfl⟩
        rw [← hhr] at HTW HT4 ⊢
        clear hhr
        have hrz : hr.size ≤ 16777216 := by
         have h1 := HTW.out
         simp only [twoB, Bool.and_eq_true, decide_eq_true_iff] at h1
         omega
        go_wp2_with fail
        refine (spec_Times (a := f) (b := hr) zf2 hrz).mono ?_; rw [HTW.out, if_pos rfl]; rintro e y6 ⟨rfl, hy⟩
        have HY6 := Lib.hid (below_go HY5.out hy)
        clear hy HY5
        obtain ⟨x, hx⟩ : ∃ u, u = timesS f hr := ⟨_, rfl⟩
        rw [← hx] at HT4 ⊢
        clear hx HTW
        by_cases hxt : x = tg
        ·obtain ⟨e1, e2⟩ := HT4.out hxt
         have hxt2 := hxt.symm
         subst hxt2
         have hkn : ¬ (k : Int) < (bst.size : Int) := by omega
         obtain ⟨l1, l2⟩ := less_no e2
         have hkn2 : ¬ (k : Int) < (ln : Int) := by omega
         clear e1 e2 l2
         go_wp2
         go_roundw
         case rel => exact ⟨i + 1, by omega, by first | rfl | go_num, HY6⟩
         case measure => simp [intOf]; omega
        ·have hxe := bytes_ne hxt
         go_wp2
         go_roundw
         case rel => exact ⟨i + 1, by omega, by first | rfl | go_num, HY6⟩
         case measure => simp [intOf]; omega
       ·obtain rfl : i = m3 := by omega
        have hkI : ¬ (i : Int) < (i : Int) := by omega
        have HYQ := Lib.hid (below_go HY4.out HBQ.out)
        go_wp2
        go_roundw
        case rel => exact ⟨k + 1, by omega, by omega, by first | rfl | go_num, HYQ⟩
        case measure => simp [intOf]; omega
     ·have hI2 : ¬ (k : Int) ≤ 4 := by omega
      go_wp2
      go_ret
      exact ⟨rfl, below_go HW.out HBR.out⟩
    ·have hI1 : ¬ (k : Int) ≤ (bst.size : Int) := by omega
     go_wp2
     go_ret
     exact ⟨rfl, below_go HW.out HBR.out⟩
 ·have hI : 1048576 < wrap64 ((l0.length : Int) + (l1.length : Int)) := by omega
  go_in
  go_wp2
  go_ret
  exact ⟨rfl, Below.refl _ _⟩
end Go.Proofs.YtidolgonmimicaaGreat
