/- Texts 3 of 9 that the claim leans on: plain laws and the walks' contracts, in order. -/
import Derived.Test.YtidolgonmimicaaGreatMSearch2
import Derived.Test.YtidolgonmimicaaGreatRows
import Derived.StillTailTactics
import Derived.Laws.BytesArg
import Derived.Deep.RegionHeld3
import Derived.Maps.RangeWalk
import Derived.Sort.KeysCollected
import Derived.Shelf.Strings.Builder1
import Derived.Shelf.Strings.Builder2
import Derived.Shelf.Small.Strs
import Derived.Shelf.Strings.BuilderF
import Derived.Shelf.Strings.Search1
import Derived.Shelf.Sort.Plain
import Derived.Shelf.Strings.Prefix
import Derived.Shelf.Bits.Mul64
import Derived.Shelf.Strings.Repeat
import Derived.Shelf.Slices.CompactS
import Derived.Test.YtidolgonmimicaaGreatProg
import Derived.Sort.OwnSorted
import Derived.Deep.Cut
import Derived.Deep.DeepCutAuto
import Derived.Laws.Bits64b
import Derived.Shelf.Spec.SearchS
import Derived.Ground.Names2Prog
set_option linter.unusedVariables false
set_option linter.unusedSimpArgs false
namespace Go.Proofs.YtidolgonmimicaaGreat
open Go.ChangeShapes Go.WideShapes Go.ChangeAt Go.RowKit Go.Deep
set_option maxRecDepth 100000 in
theorem spec_l7True {A : Option Addr} {N c : Nat} {l : List ByteArray} {w : World} (hN : l.length = N) (h : Strs w A l) (hz : N ≤ 16000000) (hs : ∀ s ∈ l, s.size ≤ 16777216) :
  Calls Tryz.prog 108 #[.slice A N c] w fun e w' => e = .returned (.bool (nodupB l)) ∧ Below w.heap.size w w' := by
 go_in
 go_wp2_with fail
 refine (spec_l6Sort N A c l w hN h hz hs).mono ?_; rintro e w1 ⟨A1, c1, L, rfl, ho, hp, hS, hb1⟩
 have HE := Lib.hid (show nodupB l = true ↔ ∀ k, 1 ≤ k → k < L.length → nextEq L k = false by
  rw [nodupB, decide_eq_true_iff, ← hp.nodup_iff]; exact srt_nodup hS)
 have hL := ho.len
 subst hL
 clear hp hS hN h hs
 go_wp2
 go_loopw [4] (fun i wr => ∃ k : Nat, 1 ≤ k ∧ (k ≤ L.length ∨ k = 1) ∧ i = .int .i64 k ∧ Hid (∀ j, 1 ≤ j → j < k → nextEq L j = false) ∧ Below w1.heap.size w1 wr) (fun i _ => L.length - (intOf i).toNat)
 case atStart => exact ⟨1, Nat.le_refl _, .inr rfl, rfl, Lib.hid (fun j h1 h2 => absurd h1 (by omega)), Below.refl _ _⟩
 case round =>
  obtain ⟨k, hk0, hk, rfl, HK, hb⟩ := hrel
  by_cases hlt : k < L.length
  ·obtain ⟨q, rfl⟩ : ∃ q, k = q + 1 := ⟨k - 1, by omega⟩
   obtain ⟨b3, o3, y, rfl, _, hy, hcy⟩ := (ho.up hb).recs.at_str hlt
   obtain ⟨b4, o4, x, e, _, hx, hcx⟩ := (ho.up hb).recs.at_str (k := q) (by omega)
   injection e with e
   injection e with e1 e2
   subst e1 e2
   have HX := Lib.hid (nextEq_at (k := q + 1) hx hy)
   have hw1 := wrap_id (x := (q : Int) + 1 - 1) (by omega)
   have hw2 : (q : Int) + 1 - 1 = (q : Int) := by omega
   have hw3 := wrap_id (x := (q : Int)) (by omega)
   clear hx hy ho
   by_cases hxy : y = x
   ·have e1 := Lib.hid (show nodupB l = false by
     rcases hq : nodupB l
     ·rfl
     ·have := HE.out.1 hq (q + 1) (by omega) hlt
      rw [HX.out, decide_eq_true hxy] at this; cases this)
    have e2 : (y.toList == x.toList) = true := by rw [hxy]; simp
    clear hxy
    go_wp2
    go_quiet (fail)
    clear hw1 hw2 hw3
    go_wp2
    go_ret
    rw [e1.out]
    exact ⟨rfl, by (repeat' (first | (with_reducible exact Below.refl _ _) | (with_reducible assumption) | (with_reducible refine below_drewN ?_ _) | (with_reducible refine Below.drew ?_) | (with_reducible refine below_alloc ?_ _) | (with_reducible refine Below.alloc ?_ ?_ _) | (with_reducible refine Below.setCell ?_ ?_ _) | (with_reducible refine below_go ?_ (by with_reducible assumption)) | (with_reducible refine below_then (by with_reducible assumption) ?_ ?_) | go_size))⟩
   ·have e2 : (y.toList == x.toList) = false := by
     rw [beq_eq_false_iff_ne]; exact fun q => hxy (toList_inj q)
    have HN := Lib.hid (show nextEq L (q + 1) = false by rw [HX.out, decide_eq_false hxy])
    clear hxy
    go_wp2
    go_quiet (fail)
    clear hw1 hw2 hw3
    go_wp2
    go_roundw
    case rel => exact ⟨q + 2, by omega, by omega, by go_num, Lib.hid (fun j h1 h2 => by
     rcases Nat.lt_succ_iff_lt_or_eq.1 h2 with h | rfl
     ·exact HK.out j h1 h
     ·exact HN.out), by (repeat' (first | (with_reducible exact Below.refl _ _) | (with_reducible assumption) | (with_reducible refine below_drewN ?_ _) | (with_reducible refine Below.drew ?_) | (with_reducible refine below_alloc ?_ _) | (with_reducible refine Below.alloc ?_ ?_ _) | (with_reducible refine Below.setCell ?_ ?_ _) | (with_reducible refine below_go ?_ (by with_reducible assumption)) | (with_reducible refine below_then (by with_reducible assumption) ?_ ?_) | go_size))⟩
    case measure => simp [intOf]; omega
  ·have e1 := Lib.hid (show nodupB l = true from HE.out.2 (fun j h1 h2 => HK.out j h1 (by omega)))
   go_wp2
   go_ret
   rw [e1.out]
   exact ⟨rfl, below_go hb1 hb⟩
def cyc (l : List ByteArray) (k : Nat) : ByteArray := l.getD (k % l.length) ByteArray.empty
def nextAt (l : List ByteArray) (k : Nat) : Bool := btwB (cyc l k) (cyc l (k + 1))
def nextsB (l : List ByteArray) : Bool := (List.range l.length).all (nextAt l)
def smallR (l : List ByteArray) : Bool := goodRows l && (decide (0 < l.length) && decide ((l.getD 0 ByteArray.empty).size ≤ 6))
def extR (l : List ByteArray) : Bool := smallR l && (nextsB l && (nodupB l && (l.length == fact (l.getD 0 ByteArray.empty).size)))
end Go.Proofs.YtidolgonmimicaaGreat
namespace Go.Proofs.YtidolgonmimicaaGreat
open Go.ChangeShapes Go.WideShapes Go.ChangeAt Go.RowKit Go.Deep
def szS (l : List ByteArray) : Int := (l.map fun s => (s.size : Int)).sum + l.length
def dgt (n : Nat) : ByteArray := strOfNums [48 + (n : Int) % 10]
def mkD (k : Nat) (out : ByteArray) : ByteArray := if k = 0 then out else mkD (k / 10) (dgt k ++ out)
termination_by k
decreasing_by omega
def markT (k : Nat) : ByteArray := ⟨#[109]⟩ ++ mkD k ByteArray.empty
def markS (k0 : Int) (j : Nat) : ByteArray := markT (k0 + (j : Int)).toNat
end Go.Proofs.YtidolgonmimicaaGreat
namespace Go.Proofs.YtidolgonmimicaaGreat
open Go.ChangeShapes Go.WideShapes Go.ChangeAt Go.RowKit Go.Deep
set_option maxRecDepth 100000 in
theorem laws_qSameS {A B : Option Addr} {n c d : Nat} {l : List ByteArray} {w : World} (hn : l.length = n) (h : Strs w A l) (g : Strs w B l) (hz : n ≤ 16777216) :
  Calls Tryz.prog 17 #[.slice A n c, .slice B n d] w fun e w' => e = .returned (.bool true) ∧ Below w.heap.size w w' := by
 subst hn
 go_in
 go_wp2
 go_loopw [13] (fun i wr => ∃ k : Nat, k ≤ l.length ∧ i = .int .i64 k ∧ Below w.heap.size w wr) (fun i _ => l.length - (intOf i).toNat)
 case atStart => exact ⟨0, Nat.zero_le _, rfl, Below.refl _ _⟩
 case round =>
  obtain ⟨k, hk, rfl, hb⟩ := hrel
  by_cases hlt : k < l.length
  ·obtain ⟨b1, o1, x, rfl, _, hx, hcx⟩ := (h.below hb (Nat.le_refl _)).at_str hlt
   obtain ⟨b2, o2, y, rfl, _, hy, hcy⟩ := (g.below hb (Nat.le_refl _)).at_str hlt
   rw [hx] at hy
   injection hy with hy
   subst hy
   clear hx h g
   go_wp2
   go_quiet (fail)
   go_wp2
   go_roundw
   case rel => exact ⟨k + 1, by omega, by go_num, below_drewN hb _⟩
   case measure => simp [intOf]; omega
  ·go_wp2
   go_ret
   exact ⟨rfl, hb⟩
end Go.Proofs.YtidolgonmimicaaGreat
namespace Go.Proofs.YtidolgonmimicaaGreat
open Go.ChangeShapes Go.WideShapes Go.ChangeAt Go.RowKit Go.Deep
theorem own_lit1_at' {α : Type} {e : α → List Value} {s : Nat} (he : ∀ x, (e x).length = s) (w : World) (E : TypeId) (x : α) {b base : Nat} (h : b = w.heap.size) (hb : base ≤ w.heap.size) : Owned e s E (w.alloc (.cells ⟨e x⟩ E)) base (some ⟨b, 0, none⟩) 1 1 [x] := by
 subst h
 exact ⟨he, rfl, by simpa using World.ownsRow_lit (e := E) (base := base) (size := s) w ⟨e x⟩ 1 hb (by unfold maxLen; omega) (by simp [he])⟩
end Go.Proofs.YtidolgonmimicaaGreat
namespace Go.Proofs.YtidolgonmimicaaGreat
open Go.ChangeShapes Go.WideShapes Go.ChangeAt Go.RowKit Go.Deep
theorem leadL_n {st n : Nat} {l : List ByteArray} (hn : l.length = n) : leadL st l = rowsL (roundsS st) l n := by rw [leadL, hn]
theorem goodM_st {nm : ByteArray} {st : Nat} {l : List ByteArray} (h : goodM nm (st : Int) l = true) : (3 ≤ st ∧ st ≤ 8) ∧ 1 ≤ l.length ∧ l.length ≤ 40 := by
 have := goodM_t h
 omega
theorem meetL_succ {L M : List ByteArray} {k : Nat} {x : ByteArray} (h : L[k]? = some x) : meetL (L.take (k + 1)) M = if inL M x = true then meetL (L.take k) M ++ [x] else meetL (L.take k) M := by
 rw [meetL, meetL, take_succ_some h, List.filter_append]
 by_cases hx : inL M x = true <;> simp [hx]
noncomputable def prodL (r : ByteArray) (L : List ByteArray) (k : Nat) : List ByteArray := (L.take k).map fun s => timesS r (turnS s)
theorem prodL_succ {r : ByteArray} {L : List ByteArray} {k : Nat} {s : ByteArray} (h : L[k]? = some s) : prodL r L (k + 1) = prodL r L k ++ [timesS r (turnS s)] := by
 rw [prodL, prodL, take_succ_some h, List.map_append]; rfl
theorem prodL_all (r : ByteArray) (L : List ByteArray) : prodL r L L.length = L.map fun s => timesS r (turnS s) := by rw [prodL, List.take_length]
noncomputable def falTo (L : List ByteArray) (k : Nat) : List ByteArray := (L.take k).flatMap fun r => L.map fun s => timesS r (turnS s)
theorem falTo_succ {L : List ByteArray} {k : Nat} {r : ByteArray} (h : L[k]? = some r) : falTo L (k + 1) = falTo L k ++ prodL r L L.length := by
 rw [falTo, falTo, take_succ_some h, List.flatMap_append, prodL_all]; simp
theorem falTo_all (L : List ByteArray) : falTo L L.length = falL L := by rw [falTo, List.take_length]; rfl
theorem falTo_zero (L : List ByteArray) : falTo L 0 = [] := rfl
theorem prodL_zero (r : ByteArray) (L : List ByteArray) : prodL r L 0 = [] := rfl
theorem spec_l11Lead {A : Option Addr} {n c st : Nat} {nm : ByteArray} {l : List ByteArray} {a : ByteArray} {w : World} (ha : a.size ≤ 8) (hn : l.length = n) (h : Strs w A l) (hz : n ≤ 1048576) (hs : ∀ s ∈ l, s.size ≤ 16777216) :
  Calls Tryz.prog 109 #[.agg #[.string nm, .int .i64 st, .slice A n c], .string a] w fun e w' => ∃ A' c', e = .returned (.slice A' n c') ∧ Owned strE 1 9 w' w.heap.size A' n c' (rowsL a l n) ∧ Below w.heap.size w w' := by
 have b0 : Below w.heap.size w (w.alloc (.cells ⟨[.string nm, .int .i64 st, .slice A n c]⟩ 25)) := by (repeat' (first | (with_reducible exact Below.refl _ _) | (with_reducible assumption) | (with_reducible refine below_drewN ?_ _) | (with_reducible refine Below.drew ?_) | (with_reducible refine below_alloc ?_ _) | (with_reducible refine Below.alloc ?_ ?_ _) | (with_reducible refine Below.setCell ?_ ?_ _) | (with_reducible refine below_go ?_ (by with_reducible assumption)) | (with_reducible refine below_then (by with_reducible assumption) ?_ ?_) | go_size))
 go_in
 go_wp2_with fail
 refine (spec_l4Lead ha hn (h.up b0) (by omega) hs).mono ?_; rintro e w1 ⟨A1, c1, rfl, ho, hb1⟩
 go_wp2
 go_ret
 exact ⟨_, _, rfl, ho.base_le (by simp), below_go b0 hb1⟩
set_option maxHeartbeats 1000000 in
set_option maxRecDepth 100000 in
theorem spec_IsLeadTrue {A : Option Addr} {n c st : Nat} {nm : ByteArray} {l : List ByteArray} {w : World} (hn : l.length = n) (h : Strs w A l) (hz : n ≤ 1048576) (hs : ∀ s ∈ l, s.size ≤ 16777216) (hnm : nm.size ≤ 16777216) (h9 : st ≤ 1000) :
  Calls Tryz.prog 29 #[.agg #[.string nm, .int .i64 st, .slice A n c]] w fun e w' => e = .returned (.tuple #[.bool (ltV nm st l), .bool (goodM nm (st : Int) l)]) ∧ Below w.heap.size w w' := by
 have b0 : Below w.heap.size w (w.alloc (.cells ⟨[.string nm, .int .i64 st, .slice A n c]⟩ 25)) := by (repeat' (first | (with_reducible exact Below.refl _ _) | (with_reducible assumption) | (with_reducible refine below_drewN ?_ _) | (with_reducible refine Below.drew ?_) | (with_reducible refine below_alloc ?_ _) | (with_reducible refine Below.alloc ?_ ?_ _) | (with_reducible refine Below.setCell ?_ ?_ _) | (with_reducible refine below_go ?_ (by with_reducible assumption)) | (with_reducible refine below_then (by with_reducible assumption) ?_ ?_) | go_size))
 have K0 := Blk.at_ w 25 [.string nm, .int .i64 st, .slice A n c] (b := w.heap.size) rfl
 have HS := Lib.hid hs
 have HQ : Hid (ltV nm st l = (goodM nm (st : Int) l && nodupB (leadL st l))) := Lib.hid rfl
 have hI : I64 (st : Int) := ⟨by omega, by omega⟩
 have H0 := h.up b0
 go_in
 go_wp2_with fail
 refine (spec_l4Good hn H0 hz HS.out hnm hI).mono ?_; rintro e w1 ⟨rfl, hb1⟩
 have K1 := K0.up hb1
 have H1 := H0.up hb1
 have B1 := below_go b0 hb1
 clear K0 H0 h b0 hb1
 rcases hg : goodM nm (st : Int) l
 ·have e1 := Lib.hid (show ltV nm st l = false by rw [HQ.out, hg]; rfl)
  go_wp2
  go_ret2
  rw [e1.out, hg]
  exact ⟨rfl, B1⟩
 ·have e1 := Lib.hid (show ltV nm st l = nodupB (leadL st l) by rw [HQ.out, hg]; rfl)
  have h38 := (goodM_st hg).1
  have hr8 : (roundsS st).size ≤ 8 := by rw [rounds_size st (by omega)]; exact h38.2
  have HR := Lib.hid (leadL_row h38.1 h38.2 l)
  have k0 := K1.cell 0; have k1 := K1.cell 1; have k2 := K1.cell 2
  simp only [List.getElem?_cons_zero, List.getElem?_cons_succ] at k0 k1 k2
  go_upto_region 3 with fail
  refine wp_region_still_tail 4 (by kernel_rfl) (by kernel_rfl) ?_
  simp only [List.take_succ_cons, List.take_zero, List.drop_succ_cons, List.drop_zero]
  repeat still_step
  still_call (turnC (spec_l1Rounds h38.2))
  repeat still_step
  refine wpStill_nil ?_
  change wpList _ _ _ _ _ w1.drew
  go_wp2_with fail
  refine (spec_l11Lead hr8 hn H1.drew hz HS.out).mono ?_; rintro e w2 ⟨A2, c2, rfl, ho, hbd⟩
  have hb2 := below_of_drew hbd
  rw [← leadL_n hn] at ho
  go_wp2_with fail
  refine (spec_l7True (by rw [leadL_len]; exact hn) ho.recs (by omega) (fun s hs => by have h1 := (HR.out s hs).2; omega)).mono ?_; rintro e w3 ⟨rfl, hb3⟩
  go_wp2
  go_ret2
  rw [e1.out, hg]
  exact ⟨rfl, below_go (below_go B1 hb2) hb3⟩
set_option maxHeartbeats 1000000 in
set_option maxRecDepth 100000 in
theorem spec_l11Shared {A : Option Addr} {n c st : Nat} {nm : ByteArray} {l : List ByteArray} {f : ByteArray} {w : World} (hn : l.length = n) (h : Strs w A l) (hz : n ≤ 1048576) (hs : ∀ s ∈ l, s.size ≤ 16777216) (hnm : nm.size ≤ 16777216) (h9 : st ≤ 1000) (hg : goodM nm (st : Int) l = true) (hf : RowN st f) :
  Calls Tryz.prog 102 #[.agg #[.string nm, .int .i64 st, .slice A n c], .string f] w fun e w' => ∃ A' m c', e = .returned (.slice A' m c') ∧ Owned strE 1 9 w' w.heap.size A' m c' (meetL (leadL st l) ((leadL st l).map (timesS f))) ∧ m ≤ 40 ∧ Below w.heap.size w w' := by
 have b0 : Below w.heap.size w (w.alloc (.cells ⟨[.string nm, .int .i64 st, .slice A n c]⟩ 25)) := by (repeat' (first | (with_reducible exact Below.refl _ _) | (with_reducible assumption) | (with_reducible refine below_drewN ?_ _) | (with_reducible refine Below.drew ?_) | (with_reducible refine below_alloc ?_ _) | (with_reducible refine Below.alloc ?_ ?_ _) | (with_reducible refine Below.setCell ?_ ?_ _) | (with_reducible refine below_go ?_ (by with_reducible assumption)) | (with_reducible refine below_then (by with_reducible assumption) ?_ ?_) | go_size))
 have K0 := Blk.at_ w 25 [.string nm, .int .i64 st, .slice A n c] (b := w.heap.size) rfl
 have HS := Lib.hid hs
 have hgs := goodM_st hg
 have h38 := hgs.1
 have hr8 : (roundsS st).size ≤ 8 := by rw [rounds_size st (by omega)]; exact h38.2
 have hf8 : f.size ≤ 8 := by rw [hf.2]; exact h38.2
 have HR := Lib.hid (leadL_row h38.1 h38.2 l)
 have H0 := h.up b0
 have hM : rowsL f l n = (leadL st l).map (timesS f) := by rw [rowsL_times hf, ← leadL_n hn]
 obtain ⟨M, hM1⟩ : ∃ u, u = (leadL st l).map (timesS f) := ⟨_, rfl⟩
 obtain ⟨L, hL1⟩ : ∃ u, u = leadL st l := ⟨_, rfl⟩
 have hLn : L.length = n := by rw [hL1, leadL_len]; exact hn
 have hMn : M.length = n := by rw [hM1, List.length_map, ← hL1]; exact hLn
 rw [← hM1] at hM ⊢
 rw [← hL1] at HR ⊢
 have HL1 := Lib.hid hL1
 have HM1 := Lib.hid hM
 have HLn := Lib.hid hLn
 have HMn := Lib.hid hMn
 have hn40 : n ≤ 40 := by omega
 clear hL1 hM1 hM hLn hMn hgs hg hf
 go_in
 go_wp2_with fail
 refine (spec_l11Lead hf8 hn H0 hz HS.out).mono ?_; rintro e w1 ⟨A1, c1, rfl, ho1, hb1⟩
 rw [HM1.out] at ho1
 have K1 := K0.up hb1
 have H1 := H0.up hb1
 have B1 := below_go b0 hb1
 clear K0 H0 h b0 hb1
 have k0 := K1.cell 0; have k1 := K1.cell 1; have k2 := K1.cell 2
 simp only [List.getElem?_cons_zero, List.getElem?_cons_succ] at k0 k1 k2
 go_upto_region 3 with fail
 go_region_held3 (fun u => u.cell? ⟨w.heap.size, 0, none⟩ = some (.string nm) ∧ u.cell? ⟨w.heap.size, 1, none⟩ = some (.int .i64 (st : Int)) ∧ u.cell? ⟨w.heap.size, 2, none⟩ = some (.slice A n c)) (first | exact ⟨k0d, k1d, k2d⟩ | exact ⟨k0, k1, k2⟩) (first | (go_at_call 90; refine (spec_l1Rounds h38.2).mono ?_; rintro e w' ⟨rfl, rfl⟩) | (go_at_call 109; refine (spec_l11Lead hr8 hn H1.drew hz HS.out).mono ?_; rintro e w2 ⟨A2, c2, rfl, ho2, hbd⟩; have hb2 := below_of_drew hbd; have K2 := K1.up hb2; have k0d := K2.cell 0; have k1d := K2.cell 1; have k2d := K2.cell 2; simp only [List.getElem?_cons_zero, List.getElem?_cons_succ] at k0d k1d k2d))
 rw [← leadL_n hn, ← HL1.out] at ho2
 have B2 := below_go B1 hb2
 have R1 := Lib.hid (ho1.recs.up hb2)
 have R2 := Lib.hid ho2.recs
 clear K1 H1 ho1 ho2 hbd hb2 k0 k1 k2
 go_wp2
 go_loopw [6, 18] (fun v i wr => ∃ (k m : Nat) (A' : Option Addr) (c' : Nat), k ≤ n ∧ i = .int .i64 k ∧ v = .slice A' m c' ∧ m ≤ k ∧ Hid (Owned strE 1 9 wr w2.heap.size A' m c' (meetL (L.take k) M)) ∧ Below w2.heap.size w2 wr) (fun _ i _ => n - (intOf i).toNat)
 case atStart => exact ⟨0, 0, none, 0, Nat.zero_le _, rfl, rfl, Nat.le_refl _, Lib.hid (Owned.nil strE_len _ _ _), Below.refl _ _⟩
 case round =>
  obtain ⟨k, m, A3, c3, hk, rfl, rfl, hmk, HO, hb⟩ := hrel
  rename World => wr
  have hszr := hb.size
  by_cases hlt : k < n
  ·obtain ⟨b1, o1, x, rfl, _, hx, hcx⟩ := (R2.out.below hb (Nat.le_refl _)).at_str (k := k) (by rw [HLn.out]; exact hlt)
   have hxz : x.size ≤ 8 := by have h1 := (HR.out x (List.mem_of_getElem? hx)).2; omega
   have HMS := Lib.hid (meetL_succ (M := M) hx)
   have R1' := R1.out.below hb (Nat.le_refl _)
   clear hx
   go_wp2_with fail
   refine (spec_l1HasS HMn.out R1' (by omega)).mono ?_; rintro e w' ⟨rfl, rfl⟩
   rcases hin : inL M x
   ·have e1 := Lib.hid (show meetL (L.take (k + 1)) M = meetL (L.take k) M by rw [HMS.out, hin]; simp)
    go_wp2
    go_roundw
    case rel => exact ⟨k + 1, m, A3, c3, by omega, by go_num, rfl, by omega, by rw [e1.out]; exact HO, hb⟩
    case measure => simp [intOf]; omega
   ·have e1 := Lib.hid (show meetL (L.take (k + 1)) M = meetL (L.take k) M ++ [x] by rw [HMS.out, hin]; simp)
    go_wp2_with (first | (at_builtin; go_must ((refine wpList_append_recs Tryz.elStr strE_one rfl (.tmp 25) (.tmp 27) rfl rfl (HO.out.alloc _) rfl (own_lit1_at' strE_len _ 9 x rfl (Nat.le_refl _)).recs rfl ?_ (by decide) ?_ ?_; (focus (first | omega | (simp only [World.size_alloc]; done) | (simp only [World.size_alloc]; omega) | (simp; done) | (simp; omega))); (focus (first | omega | (simp only [World.size_alloc]; done) | (simp only [World.size_alloc]; omega) | (simp; done) | (simp; omega))); intro A4 c4 w6 ho6 hg6 hl6; have hb6 : Below w2.heap.size w2 w6 := (hb.alloc hszr _).trans (grown_base hg6 (by simp; omega) (fun z hz => (HO.out.range z hz).1))))))
    go_roundw
    case rel => exact ⟨k + 1, m + 1, A4, c4, by omega, by go_num, rfl, by omega, by rw [e1.out]; exact Lib.hid ho6, hb6⟩
    case measure => simp [intOf]; omega
  ·obtain rfl : k = n := by omega
   have e1 := Lib.hid (show meetL (L.take k) M = meetL L M by rw [List.take_of_length_le (by rw [HLn.out]; omega)])
   go_wp2
   go_ret
   refine ⟨_, _, _, rfl, by rw [← e1.out]; exact HO.out.base_le B2.size, by omega, below_go B2 hb⟩
set_option maxHeartbeats 2000000 in
set_option maxRecDepth 100000 in
theorem spec_l11Heads {A : Option Addr} {n c st : Nat} {nm : ByteArray} {l : List ByteArray} {w : World} (hn : l.length = n) (h : Strs w A l) (hz : n ≤ 1048576) (hs : ∀ s ∈ l, s.size ≤ 16777216) (hnm : nm.size ≤ 16777216) (h9 : st ≤ 1000) (hg : goodM nm (st : Int) l = true) :
  Calls Tryz.prog 96 #[.agg #[.string nm, .int .i64 st, .slice A n c]] w fun e w' => ∃ A' m c', e = .returned (.slice A' m c') ∧ Owned strE 1 9 w' w.heap.size A' m c' (falS (leadL st l)) ∧ m ≤ 1600 ∧ Below w.heap.size w w' := by
 have b0 : Below w.heap.size w (w.alloc (.cells ⟨[.string nm, .int .i64 st, .slice A n c]⟩ 25)) := by (repeat' (first | (with_reducible exact Below.refl _ _) | (with_reducible assumption) | (with_reducible refine below_drewN ?_ _) | (with_reducible refine Below.drew ?_) | (with_reducible refine below_alloc ?_ _) | (with_reducible refine Below.alloc ?_ ?_ _) | (with_reducible refine Below.setCell ?_ ?_ _) | (with_reducible refine below_go ?_ (by with_reducible assumption)) | (with_reducible refine below_then (by with_reducible assumption) ?_ ?_) | go_size))
 have K0 := Blk.at_ w 25 [.string nm, .int .i64 st, .slice A n c] (b := w.heap.size) rfl
 have HS := Lib.hid hs
 have hgs := goodM_st hg
 have h38 := hgs.1
 have hr8 : (roundsS st).size ≤ 8 := by rw [rounds_size st (by omega)]; exact h38.2
 have HR := Lib.hid (leadL_row h38.1 h38.2 l)
 have HFR := Lib.hid (falL_row HR.out)
 have H0 := h.up b0
 obtain ⟨L, hL1⟩ : ∃ u, u = leadL st l := ⟨_, rfl⟩
 have hLn : L.length = n := by rw [hL1, leadL_len]; exact hn
 rw [← hL1] at HR HFR ⊢
 have HL1 := Lib.hid hL1
 have HLn := Lib.hid hLn
 have hn40 : n ≤ 40 := by omega
 have k0 := K0.cell 0; have k1 := K0.cell 1; have k2 := K0.cell 2
 simp only [List.getElem?_cons_zero, List.getElem?_cons_succ] at k0 k1 k2
 clear hL1 hLn hgs hg
 go_in
 go_upto_region 1 with fail
 obtain ⟨w0, hw0⟩ : ∃ u, u = (w.alloc (.cells #[.string nm, .int .i64 st, .slice A n c] 25)) := ⟨_, rfl⟩
 rw [← hw0] at b0 K0 H0 k0 k1 k2 ⊢
 clear hw0
 refine wp_region_still_tail 4 (by kernel_rfl) (by kernel_rfl) ?_
 simp only [List.take_succ_cons, List.take_zero, List.drop_succ_cons, List.drop_zero]
 repeat still_step
 still_call (turnC (spec_l1Rounds h38.2))
 repeat still_step
 refine wpStill_nil ?_
 change wpList _ _ _ _ _ w0.drew
 go_wp2_with fail
 refine (spec_l11Lead hr8 hn H0.drew hz HS.out).mono ?_; rintro e w2 ⟨A2, c2, rfl, ho2, hbd⟩
 have hb2 := below_of_drew hbd
 rw [← leadL_n hn, ← HL1.out] at ho2
 have B2 := below_go b0 hb2
 have R2 := Lib.hid ho2.recs
 clear K0 H0 ho2 hbd hb2 k0 k1 k2 h b0
 go_wp2
 go_loopw [4, 19] (fun v i wr => ∃ (k m : Nat) (A' : Option Addr) (c' : Nat), k ≤ n ∧ i = .int .i64 k ∧ v = .slice A' m c' ∧ Hid (m = k * n) ∧ Hid (Owned strE 1 9 wr w2.heap.size A' m c' (falTo L k)) ∧ Below w2.heap.size w2 wr) (fun _ i _ => n - (intOf i).toNat)
 case atStart => exact ⟨0, 0, none, 0, Nat.zero_le _, rfl, rfl, Lib.hid (Nat.zero_mul _).symm, Lib.hid (by rw [falTo_zero]; exact Owned.nil strE_len _ _ _), Below.refl _ _⟩
 case round =>
  obtain ⟨k, m, A3, c3, hk, rfl, rfl, HM, HO, hb⟩ := hrel
  rename World => wo
  have hszo := hb.size
  by_cases hlt : k < n
  ·obtain ⟨b1, o1, x, rfl, _, hx, hcx⟩ := (R2.out.below hb (Nat.le_refl _)).at_str (k := k) (by rw [HLn.out]; exact hlt)
   have hxN := Lib.hid (HR.out x (List.mem_of_getElem? hx))
   have HTS := Lib.hid (falTo_succ hx)
   have hI : (k : Int) < (n : Int) := by omega
   clear hx
   go_wp2
   go_loopw [4, 25] (fun v i wr => ∃ (j q : Nat) (A' : Option Addr) (c' : Nat), j ≤ n ∧ i = .int .i64 j ∧ v = .slice A' q c' ∧ Hid (q = k * n + j) ∧ Hid (Owned strE 1 9 wr w2.heap.size A' q c' (falTo L k ++ prodL x L j)) ∧ Below w2.heap.size w2 wr) (fun _ i _ => n - (intOf i).toNat)
   case atStart => exact ⟨0, m, A3, c3, Nat.zero_le _, rfl, rfl, HM, Lib.hid (by rw [prodL_zero, List.append_nil]; exact HO.out), hb⟩
   case round =>
    obtain ⟨j, q, A4, c4, hj, rfl, rfl, HMQ, HOQ, hbq⟩ := hrel
    rename World => wq
    have hszq := hbq.size
    by_cases hjt : j < n
    ·obtain ⟨b2, o2, y, hA2, _, hy, hcy⟩ := (R2.out.below hbq (Nat.le_refl _)).at_str (k := j) (by rw [HLn.out]; exact hjt)
     injection hA2 with hA2
     injection hA2 with e1 e2 _
     subst e1 e2
     have hyN := HR.out y (List.mem_of_getElem? hy)
     have HPS := Lib.hid (prodL_succ (r := x) hy)
     have hqb : q ≤ 1640 := by
      have h1 := HMQ.out
      have h2 : k * n ≤ 40 * 40 := Nat.mul_le_mul (by omega) hn40
      omega
     have hty := turn_rowN hyN
     have hft := rowN_fits hxN.out hty
     have hxs : x.size ≤ 16777216 := by have := hxN.out.2; omega
     have hts : (turnS y).size ≤ 16777216 := by have := hty.2; omega
     have HYG := Lib.hid hyN.1
     clear hy hyN hty
     go_wp2_with fail
     refine (spec_l1Turn HYG.out).mono ?_; rintro e w5 ⟨rfl, hb5, _⟩
     have hbq5 := below_go hbq hb5
     have HO5 := Lib.hid (HOQ.out.up hb5)
     have hsz5 := hbq5.size
     go_wp2_with fail
     refine (spec_l1Times hxs hts hft).mono ?_; rintro e w' ⟨rfl, rfl⟩
     obtain ⟨z, hz⟩ : ∃ u, u = timesS x (turnS y) := ⟨_, rfl⟩
     rw [← hz] at HPS ⊢
     clear hz
     go_wp2_with (first | (at_builtin; go_must ((refine wpList_append_recs Tryz.elStr strE_one rfl (.tmp 29) (.tmp 34) rfl rfl (HO5.out.alloc _) rfl (own_lit1_at' strE_len _ 9 z rfl (Nat.le_refl _)).recs rfl ?_ (by decide) ?_ ?_; (focus (first | omega | (simp only [World.size_alloc]; done) | (simp only [World.size_alloc]; omega) | (simp; done) | (simp; omega))); (focus (first | omega | (simp only [World.size_alloc]; done) | (simp only [World.size_alloc]; omega) | (simp; done) | (simp; omega))); intro A6 c6 w6 ho6 hg6 hl6; have hb6 : Below w2.heap.size w2 w6 := (hbq5.alloc hsz5 _).trans (grown_base hg6 (by simp; omega) (fun z hz => (HO5.out.range z hz).1))))))
     go_roundw
     case rel => exact ⟨j + 1, q + 1, A6, c6, by omega, by go_num, rfl, Lib.hid (by have := HMQ.out; omega), Lib.hid (by rw [HPS.out, ← List.append_assoc]; exact ho6), hb6⟩
     case measure => simp [intOf]; omega
    ·obtain rfl : j = n := by omega
     have hJ : ¬ (j : Int) < (j : Int) := by omega
     go_wp2
     go_roundw
     case rel => exact ⟨k + 1, q, A4, c4, by omega, by go_num, rfl, Lib.hid (by have := HMQ.out; rw [Nat.succ_mul]; exact this), Lib.hid (by have h1 := HOQ.out; rw [HTS.out, HLn.out]; exact h1), hbq⟩
     case measure => simp [intOf]; omega
  ·obtain rfl : k = n := by omega
   have hI : ¬ (k : Int) < (k : Int) := by omega
   have HALL := Lib.hid (show falTo L k = falL L by rw [← HLn.out, falTo_all])
   have HO2 : Hid (Owned strE 1 9 wo w2.heap.size A3 m c3 (falL L)) := Lib.hid (by rw [← HALL.out]; exact HO.out)
   have hmb : m ≤ 1600 := by
    have h1 := HM.out
    have h2 : k * k ≤ 40 * 40 := Nat.mul_le_mul hn40 hn40
    omega
   have HML := Lib.hid HO2.out.len
   clear HO HALL HM
   go_wp2_with fail
   refine (spec_l6Sort m A3 c3 (falL L) wo HML.out HO2.out.recs (by omega) (fun s hs => by have h1 := (HFR.out s hs).2; omega)).mono ?_; rintro e w7 ⟨A7, c7, T, rfl, ho7, hp7, hs7, hb7⟩
   have HTS : Hid (falS L = uniqF T) := Lib.hid (by rw [falS, srt_unique (List.pairwise_mergeSort leS_trans leS_total _) hs7 ((List.mergeSort_perm _ leS).trans hp7.symm)])
   have B7 := below_go (below_go B2 hb) hb7
   have R7 := Lib.hid ho7.recs
   have HTL := Lib.hid ho7.len
   have HTZ : Hid (∀ s ∈ T, s.size ≤ 8) := Lib.hid (fun s hs => by have h1 := (HFR.out s (hp7.mem_iff.1 hs)).2; omega)
   have HUL := Lib.hid (uniqF_len T)
   clear ho7 hp7 hs7 hb7 HO2 HML HFR
   go_wp2
   go_loopw [9, 41] (fun v i wr => ∃ (j q : Nat) (A' : Option Addr) (c' : Nat), j ≤ m ∧ i = .int .i64 j ∧ v = .slice A' q c' ∧ q ≤ j ∧ Hid (Owned strE 1 9 wr w7.heap.size A' q c' (uniqF (T.take j))) ∧ Below w7.heap.size w7 wr) (fun _ i _ => m - (intOf i).toNat)
   case atStart => exact ⟨0, 0, none, 0, Nat.zero_le _, rfl, rfl, Nat.le_refl _, Lib.hid (Owned.nil strE_len _ _ _), Below.refl _ _⟩
   case round =>
    obtain ⟨j, q, A8, c8, hj, rfl, rfl, hqj, HO, hb8⟩ := hrel
    rename World => wr
    have hszr := hb8.size
    have HOL := Lib.hid HO.out.len
    by_cases hjt : j < m
    ·have hJ : (j : Int) < (m : Int) := by omega
     obtain ⟨b2, o2, y, rfl, _, hy, hcy⟩ := (R7.out.below hb8 (Nat.le_refl _)).at_str (k := j) (by rw [HTL.out]; exact hjt)
     have HUS := Lib.hid (uniqF_step hy)
     have hyz : y.size ≤ 8 := HTZ.out y (List.mem_of_getElem? hy)
     clear hy
     by_cases hq0 : q = 0
     ·subst hq0
      have e1 := Lib.hid (show uniqF (T.take (j + 1)) = uniqF (T.take j) ++ [y] by
       have h1 := List.eq_nil_of_length_eq_zero HOL.out
       rw [HUS.out, uniqStep, h1]; simp)
      go_wp2_with (first | (at_builtin; go_must ((refine wpList_append_recs Tryz.elStr strE_one rfl (.tmp 58) (.tmp 60) rfl rfl (HO.out.alloc _) rfl (own_lit1_at' strE_len _ 9 y rfl (Nat.le_refl _)).recs rfl ?_ (by decide) ?_ ?_; (focus (first | omega | (simp only [World.size_alloc]; done) | (simp only [World.size_alloc]; omega) | (simp; done) | (simp; omega))); (focus (first | omega | (simp only [World.size_alloc]; done) | (simp only [World.size_alloc]; omega) | (simp; done) | (simp; omega))); intro A6 c6 w6 ho6 hg6 hl6; have hb6 : Below w7.heap.size w7 w6 := (hb8.alloc hszr _).trans (grown_base hg6 (by simp; omega) (fun z hz => (HO.out.range z hz).1))))))
      go_roundw
      case rel => exact ⟨j + 1, 0 + 1, A6, c6, by omega, by go_num, rfl, by omega, Lib.hid (by rw [e1.out]; exact ho6), hb6⟩
      case measure => simp [intOf]; omega
     ·obtain ⟨g, rfl, g0, g1, gc, _⟩ := HO.out.at_ (by omega)
      obtain ⟨v, hv⟩ := some_of_lt (l := uniqF (T.take j)) (k := q - 1) (by rw [HOL.out]; omega)
      have cv := gc (q - 1) v 0 _ hv rfl
      simp only [Nat.mul_one, Nat.add_zero] at cv
      have hlast : (uniqF (T.take j)).getLast? = some v := by
       rw [List.getLast?_eq_getElem?, HOL.out]; exact hv
      have HLAST := Lib.hid hlast
      have hJq : ((q : Int) == 0) = false := by simp; omega
      have hJ2 : IntKind.i64.wrap ((q : Int) - 1) = ((q - 1 : Nat) : Int) := by rw [wrap_id (by omega)]; omega
      have hJ3 : (q : Int) - 1 = ((q - 1 : Nat) : Int) := by omega
      have hJ4 : ((q - 1 : Nat) : Int) < (q : Int) := by omega
      clear gc hv hlast
      by_cases hvy : v = y
      ·have e1 := Lib.hid (show uniqF (T.take (j + 1)) = uniqF (T.take j) by rw [HUS.out, uniqStep, if_pos (by rw [HLAST.out, hvy])])
       have hbe : (v.toList == y.toList) = true := by rw [hvy]; simp
       clear hvy
       go_wp2
       go_roundw
       case rel => exact ⟨j + 1, q, some ⟨g, 0, none⟩, c8, by omega, by go_num, rfl, by omega, Lib.hid (by rw [e1.out]; exact HO.out), hb8⟩
       case measure => simp [intOf]; omega
      ·have e1 := Lib.hid (show uniqF (T.take (j + 1)) = uniqF (T.take j) ++ [y] by rw [HUS.out, uniqStep, if_neg (by rw [HLAST.out]; intro e; injection e with e; exact hvy e)])
       have hbe := bytes_ne hvy
       clear hvy
       go_wp2_with (first | (at_builtin; go_must ((refine wpList_append_recs Tryz.elStr strE_one rfl (.tmp 58) (.tmp 60) rfl rfl (HO.out.alloc _) rfl (own_lit1_at' strE_len _ 9 y rfl (Nat.le_refl _)).recs rfl ?_ (by decide) ?_ ?_; (focus (first | omega | (simp only [World.size_alloc]; done) | (simp only [World.size_alloc]; omega) | (simp; done) | (simp; omega))); (focus (first | omega | (simp only [World.size_alloc]; done) | (simp only [World.size_alloc]; omega) | (simp; done) | (simp; omega))); intro A6 c6 w6 ho6 hg6 hl6; have hb6 : Below w7.heap.size w7 w6 := (hb8.alloc hszr _).trans (grown_base hg6 (by simp; omega) (fun z hz => (HO.out.range z hz).1))))))
       go_roundw
       case rel => exact ⟨j + 1, q + 1, A6, c6, by omega, by go_num, rfl, by omega, Lib.hid (by rw [e1.out]; exact ho6), hb6⟩
       case measure => simp [intOf]; omega
    ·obtain rfl : j = m := by omega
     have hJ : ¬ (j : Int) < (j : Int) := by omega
     have e1 := Lib.hid (show uniqF (T.take j) = falS L by rw [HTS.out, List.take_of_length_le (by rw [HTL.out]; omega)])
     go_wp2
     go_ret
     exact ⟨_, _, _, rfl, by rw [← e1.out]; exact HO.out.base_le B7.size, by omega, below_go B7 hb8⟩
end Go.Proofs.YtidolgonmimicaaGreat
namespace Go.Proofs.YtidolgonmimicaaGreat
open Go.ChangeShapes Go.WideShapes Go.ChangeAt Go.RowKit Go.Deep
theorem rowsL_cut (a : ByteArray) (l : List ByteArray) (n : Nat) : (rowsL a l (n + 1)).take n = rowsL a l n := by
 rw [rowsL_succ, List.take_append_of_le_length (by rw [rowsL_len]; exact Nat.le_refl _), List.take_of_length_le (by rw [rowsL_len]; exact Nat.le_refl _)]
theorem Recs.front {α : Type} {e : α → List Value} {s : Nat} {w : World} {g : Nat} {l : List α} (h : Recs e s w (some ⟨g, 0, none⟩) l) (n : Nat) (hn : n ≤ l.length) : Recs e s w (some ⟨g, 0, none⟩) (l.take n) := by
 have := h.part 0 n (Nat.zero_le _) hn
 simpa using this
set_option maxHeartbeats 1000000 in
set_option maxRecDepth 100000 in
theorem impl_leadRows {A : Option Addr} {n c : Nat} {nm a : ByteArray} {st : Int} {l : List ByteArray} {w : World} (ha : a.size ≤ 8) (hn : l.length = n) (h : Strs w A l) (hz : n ≤ 1048576) (hs : ∀ s ∈ l, s.size ≤ 16777216) (hg : ∀ s ∈ l, isDash s = true ∨ validD s = true) :
  Calls Tryz.prog 104 #[.agg #[.string nm, .int .i64 st, .slice A n c], .string a] w fun e w' => ∃ A' c', e = .returned (.slice A' n c') ∧ Strs w' A' (rowsL a l n) ∧ Below w.heap.size w w' := by
 have b0 : Below w.heap.size w (w.alloc (.cells ⟨[.string nm, .int .i64 st, .slice A n c]⟩ 25)) := by (repeat' (first | (with_reducible exact Below.refl _ _) | (with_reducible assumption) | (with_reducible refine below_drewN ?_ _) | (with_reducible refine Below.drew ?_) | (with_reducible refine below_alloc ?_ _) | (with_reducible refine Below.alloc ?_ ?_ _) | (with_reducible refine Below.setCell ?_ ?_ _) | (with_reducible refine below_go ?_ (by with_reducible assumption)) | (with_reducible refine below_then (by with_reducible assumption) ?_ ?_) | go_size))
 have K0 := Blk.at_ w 25 [.string nm, .int .i64 st, .slice A n c] (b := w.heap.size) rfl
 have HG := Lib.hid hg
 have HS := Lib.hid hs
 clear hg hs
 go_in
 go_wp2_with fail
 obtain ⟨w0, hw0⟩ : ∃ u, u = (w.alloc (.cells #[.string nm, .int .i64 st, .slice A n c] 25)) := ⟨_, rfl⟩
 rw [← hw0] at b0 K0 ⊢
 clear hw0
 have H0 := Lib.hid (h.up b0)
 have carry : Hid (∀ u : World, Below w0.heap.size w0 u → u.cell? ⟨w.heap.size, 2, none⟩ = some (.slice A n c)) := Lib.hid (fun u hu => by
  have L0 := K0.up hu
  simpa using L0.cell 2)
 clear h K0
 have hwk : IntKind.i64.wrap (n : Int) = (n : Int) := wrap_id (by omega)
 have hle3 : (0 : Int) ≤ (n : Int) := by omega
 go_region_held3 (fun u => u.cell? ⟨w.heap.size, 2, none⟩ = some (.slice A n c)) (first | exact carry.out _ hb1 | exact carry.out _ (Below.refl _ _) | exact carry.out _ (Below.refl _ _).drew) (first | (go_at_call 191; ((refine (impl_rowsUnder ha hn H0.out.drew (by omega) HS.out HG.out).mono ?_); rintro e w1 ⟨A1, c1, rfl, ho, hbd⟩; have hb1 := below_of_drew hbd; have hcp := ho.cap; have hcI : (n : Int) ≤ (c1 : Int) := (by omega); obtain ⟨g, rfl, _⟩ := ho.at_ (by omega))))
 go_wp2
 go_ret
 exact ⟨_, _, rfl, by have q := ho.recs.front n (by rw [rowsL_len]; omega); rw [rowsL_cut] at q; exact q, below_go b0 hb1⟩
end Go.Proofs.YtidolgonmimicaaGreat
namespace Go.Proofs.YtidolgonmimicaaGreat
open Go.ChangeShapes Go.WideShapes Go.ChangeAt Go.RowKit Go.Deep
open Go.Maps (Keyed)
def MapX {α : Type} (en : α → Value) (li : α → Lit) (P : Program) (w : World) (k e : TypeId) (b m : Nat) (f : Value → Option α) : Prop :=
 ∃ D : DataW Unit, w.ownsMap P k (plainElem P e) b m D ∧ Maps.size D = m ∧ ∀ key kl, keyOf P k key = some kl → (f key = none → Maps.has D kl = false ∧ ∀ z, D.atKey kl z = z) ∧ ∀ x, f key = some x → Maps.has D kl = true ∧ ∀ z, D.atKey kl z = .lit (li x)
section
variable {α : Type} {en : α → Value} {li : α → Lit} {P : Program} {w w' : World} {k e : TypeId} {b m : Nat} {f : Value → Option α}
theorem MapX.made (en : α → Value) (li : α → Lit) (P : Program) (w : World) (k e : TypeId) : MapX en li P (w.alloc (.map #[] 0)) k e w.heap.size 0 (fun _ => none) :=
 ⟨.map [], World.ownsMap_made w P k _, rfl, fun key kl _ => ⟨fun _ => ⟨rfl, fun _ => rfl⟩, fun x hx => by cases hx⟩⟩
theorem MapX.made_at (en : α → Value) (li : α → Lit) (P : Program) (w : World) (k e : TypeId) {b : Nat} (h : b = w.heap.size) : MapX en li P (w.alloc (.map #[] 0)) k e b 0 (fun _ => none) := by
 subst h
 exact MapX.made en li P w k e
theorem MapX.lt (h : MapX en li P w k e b m f) : b < w.heap.size := by
 obtain ⟨D, h1, _⟩ := h
 exact h1.lt
theorem MapX.kept {row : Option Nat} (h : MapX en li P w k e b m f) (hg : w.grownBy w' row) (hne : some b ≠ row) : MapX en li P w' k e b m f := by
 obtain ⟨D, h1, h2⟩ := h
 exact ⟨D, h1.kept hg hne, h2⟩
theorem MapX.up (h : MapX en li P w k e b m f) (hb : Below w.heap.size w w') : MapX en li P w' k e b m f := h.kept (grown_of_below hb) (by simp)
theorem MapX.alloc (h : MapX en li P w k e b m f) (o : Obj) : MapX en li P (w.alloc o) k e b m f := h.up ((Below.refl _ _).alloc (Nat.le_refl _) o)
theorem MapX.drew (h : MapX en li P w k e b m f) : MapX en li P w.drew k e b m f := h.up (Below.refl _ _).drew
theorem MapX.as {m' : Nat} {f' : Value → Option α} (h : MapX en li P w k e b m f) (hm : m = m') (hf : ∀ q, f q = f' q) : MapX en li P w k e b m' f' := by
 have e1 : f = f' := funext hf
 subst hm e1
 exact h
theorem MapX.look {t : TypeId} {z : α} (h : MapX en li P w k e b m f) (K : Keyed P k) (ht : P.underlying t = some (.map k e)) (hz : (zeroValue e).run P w = .ok (en z) w) (hzd : plainElem (H := Unit) P e (en z) = some (.lit (li z), [])) (hin : ∀ v x ps, plainElem (H := Unit) P e v = some (.lit (li x), ps) → v = en x)
  {key : Value} {kl : Lit} (hkey : keyOf P k key = some kl) : (Instr.lookup t (.map (some b)) key false).run P w = .ok (en ((f key).getD z)) w := by
 obtain ⟨D, h1, _, h2⟩ := h
 obtain ⟨v, ps, hrun, hv⟩ := h1.lookup K ht hz hzd hkey
 obtain ⟨a1, a2⟩ := h2 key kl hkey
 rcases hf : f key with _ | x
 ·rw [(a1 hf).2] at hv
  rw [hrun, hin _ _ _ hv]; rfl
 ·rw [(a2 x hf).2] at hv
  rw [hrun, hin _ _ _ hv]; rfl
theorem MapX.len {t : TypeId} (h : MapX en li P w k e b m f) (ht : P.underlying t = some (.map k e)) (ty : TypeId) : (Builtin.len_ #[t] ty #[.map (some b)]).run P w = .ok (.int .i64 m) w := by
 obtain ⟨D, h1, h3, _⟩ := h
 rw [h1.len ht ty, h3]
theorem ownsMap_tight2 {H : Type} {R : Value → Option (DataW H × List MemPlace)} {n : Nat} {D : DataW H} (h : w.ownsMap P k R b n D) : w.ownsMap P k R b (Maps.size D) D := by
 have hm := h.isMap
 cases D with
 | map l => exact ownsMap_tight h (Nat.le_of_eq rfl)
 | _ => exact absurd hm (by simp [Maps.IsMap])
theorem MapX.put {t : TypeId} (K : Keyed P k) (ht : P.underlying t = some (.map k e)) (h : MapX en li P w k e b m f) (hn : m ≤ 16777216) {key : Value} {x : α}
  {kl : Lit} (hkey : keyOf P k key = some kl) (hpe : plainElem (H := Unit) P e (en x) = some (.lit (li x), [])) : ∃ w', (Instr.mapUpdate t (.map (some b)) key (en x)).run P w = .ok () w' ∧ (∀ (m' : Nat) (g : Value → Option α), m' = (if (f key).isSome then m else m + 1) → g key = some x → (∀ q, q ≠ key → g q = f q) → MapX en li P w' k e b m' g) ∧ w.grownBy w' (some b) := by
 obtain ⟨D, h1, h3, h2⟩ := h
 obtain ⟨w', hrun, hown, hg⟩ := h1.update K ht (by unfold maxLen; omega) hkey hpe
 refine ⟨w', hrun, fun m' g hm' g1 g2 => ?_, hg⟩
 have e0 : Maps.size (D.put kl (.lit (li x))) = m' := by
  rw [Maps.size_put (h1.tidy K), h3, hm']
  obtain ⟨a1, a2⟩ := h2 key kl hkey
  rcases hf : f key with _ | y
  ·rw [(a1 hf).1]; simp
  ·rw [(a2 y hf).1]; simp
 refine ⟨_, e0 ▸ ownsMap_tight2 hown, e0, fun key' kl' hk' => ?_⟩
 by_cases ek : kl' = kl
 ·subst ek
  have e1 : key' = key := K.inj hk' hkey
  subst e1
  rw [g1]
  refine ⟨fun q => (by cases q), fun y hy => ?_⟩
  injection hy with hy
  subst hy
  exact ⟨Maps.has_put_same h1.isMap (K.key hkey) _, fun z => Maps.atKey_put_same h1.isMap (K.key hkey) _ _⟩
 ·have e1 : key' ≠ key := fun e2 => ek (by rw [e2, hkey] at hk'; injection hk' with hk'; exact hk'.symm)
  rw [g2 _ e1, Maps.has_put_other ek]
  obtain ⟨a1, a2⟩ := h2 key' kl' hk'
  exact ⟨fun q => ⟨(a1 q).1, fun z => by rw [Maps.atKey_put_other ek]; exact (a1 q).2 z⟩, fun y q => ⟨(a2 y q).1, fun z => by rw [Maps.atKey_put_other ek]; exact (a2 y q).2 z⟩⟩
theorem MapX.drop {t : TypeId} (K : Keyed P k) (ht : P.underlying t = some (.map k e)) (h : MapX en li P w k e b m f) {key : Value}
  {kl : Lit} (hkey : keyOf P k key = some kl) (ty : TypeId) : ∃ w', (Builtin.delete_ #[t, k] ty #[.map (some b), key]).run P w = .ok (.tuple #[]) w' ∧ (∀ (m' : Nat) (g : Value → Option α), m' + (if (f key).isSome then 1 else 0) = m → g key = none → (∀ q, q ≠ key → g q = f q) → MapX en li P w' k e b m' g) ∧ w.grownBy w' (some b) := by
 obtain ⟨D, h1, h3, h2⟩ := h
 obtain ⟨w', hrun, hown, hg⟩ := h1.drop K ht hkey ty
 refine ⟨w', hrun, fun m' g hm' g1 g2 => ?_, hg.grown⟩
 have e0 : Maps.size (D.del kl) = m' := by
  have e9 := Maps.size_del (k := kl) (h1.tidy K)
  rw [h3, ← hm'] at e9
  obtain ⟨a1, a2⟩ := h2 key kl hkey
  rcases hf : f key with _ | y
  ·rw [(a1 hf).1, hf] at e9; simp at e9; omega
  ·rw [(a2 y hf).1, hf] at e9; simp at e9; omega
 refine ⟨_, e0 ▸ ownsMap_tight2 hown, e0, fun key' kl' hk' => ?_⟩
 by_cases ek : kl' = kl
 ·subst ek
  have e1 : key' = key := K.inj hk' hkey
  subst e1
  rw [g1]
  exact ⟨fun _ => ⟨Maps.has_del_same, fun z => Maps.atKey_del_same _⟩, fun y hy => (by cases hy)⟩
 ·have e1 : key' ≠ key := fun e2 => ek (by rw [e2, hkey] at hk'; injection hk' with hk'; exact hk'.symm)
  rw [g2 _ e1, Maps.has_del_other ek]
  obtain ⟨a1, a2⟩ := h2 key' kl' hk'
  exact ⟨fun q => ⟨(a1 q).1, fun z => by rw [Maps.atKey_del_other ek]; exact (a1 q).2 z⟩, fun y q => ⟨(a2 y q).1, fun z => by rw [Maps.atKey_del_other ek]; exact (a2 y q).2 z⟩⟩
end
section
variable {α : Type} {en : α → Value} {li : α → Lit} {P : Program} {ops : Array Oper} {rest : List Oper} {o : Oper} {a : Act} {Q : Exit → Act → World → Prop} {W : World} {k e : TypeId} {b n : Nat} {f : Value → Option α}
end
def bLi (x : Bool) : Lit := .bool x
def bEn (x : Bool) : Value := .bool x
end Go.Proofs.YtidolgonmimicaaGreat
namespace Go.Proofs.YtidolgonmimicaaGreat
open Go.ChangeShapes Go.WideShapes Go.ChangeAt Go.RowKit Go.Deep
open Go.Maps (Keyed string_keyed)
open Go.WideMaps (keyOf_string_mk)
def SetD (D : DataW Unit) (S : List ByteArray) : Prop := ∀ s : ByteArray, s.size ≤ maxLen → Maps.has D (sLi s) = inL S s ∧ (inL S s = true → ∀ z, D.atKey (sLi s) z = .lit (.bool true)) ∧ (inL S s = false → ∀ z, D.atKey (sLi s) z = z)
def SetX (P : Program) (w : World) (k e : TypeId) (b : Nat) (S : List ByteArray) : Prop :=
 ∃ (D : DataW Unit) (m : Nat), w.ownsMap P k (plainElem P e) b m D ∧ m ≤ S.length ∧ Maps.size D = m ∧ SetD D S
theorem sLi_inj {s t : ByteArray} (h : sLi s = sLi t) : s = t := by
 injection h with h
 exact ba_ext h
theorem inL_snoc (S : List ByteArray) (x s : ByteArray) : inL (S ++ [x]) s = (inL S s || decide (x = s)) := by simp [inL, List.any_append]
section
variable {P : Program} {w w' : World} {k e : TypeId} {b n : Nat} {S : List ByteArray}
theorem SetX.made (P : Program) (w : World) (k e : TypeId) : SetX P (w.alloc (.map #[] 0)) k e w.heap.size [] :=
 ⟨.map [], 0, World.ownsMap_made w P k _, Nat.le_refl _, rfl, fun s _ => ⟨rfl, fun q => (by cases q), fun _ _ => rfl⟩⟩
theorem SetX.made_at (P : Program) (w : World) (k e : TypeId) {b : Nat} (h : b = w.heap.size) : SetX P (w.alloc (.map #[] 0)) k e b [] := by
 subst h
 exact SetX.made P w k e
theorem SetX.lt (h : SetX P w k e b S) : b < w.heap.size := by
 obtain ⟨D, m, h1, _⟩ := h
 exact h1.lt
theorem SetX.kept {row : Option Nat} (h : SetX P w k e b S) (hg : w.grownBy w' row) (hne : some b ≠ row) : SetX P w' k e b S := by
 obtain ⟨D, m, h1, h2⟩ := h
 exact ⟨D, m, h1.kept hg hne, h2⟩
theorem SetX.up (h : SetX P w k e b S) (hb : Below w.heap.size w w') : SetX P w' k e b S := h.kept (grown_of_below hb) (by simp)
theorem SetX.alloc (h : SetX P w k e b S) (o : Obj) : SetX P (w.alloc o) k e b S := h.up ((Below.refl _ _).alloc (Nat.le_refl _) o)
theorem SetX.drew (h : SetX P w k e b S) : SetX P w.drew k e b S := h.up (Below.refl _ _).drew
theorem SetX.look {t : TypeId} (h : SetX P w k e b S) (K : Keyed P k) (ht : P.underlying t = some (.map k e)) (hk : P.underlying k = some .string) (he : P.underlying e = some .bool) (hz : (zeroValue e).run P w = .ok (.bool false) w) {s : ByteArray} (hs : s.size ≤ 16777216) :
  (Instr.lookup t (.map (some b)) (.string s) false).run P w = .ok (.bool (inL S s)) w := by
 obtain ⟨D, m, h1, _, _, h2⟩ := h
 have hm : s.size ≤ maxLen := by unfold maxLen; omega
 obtain ⟨v, ps, hrun, hv⟩ := h1.lookup K ht hz (plainElem_bool he false) (keyOf_string_mk hk hm)
 obtain ⟨_, a1, a2⟩ := h2 s hm
 rcases hi : inL S s
 ·rw [show (Lit.string s.data.toList) = sLi s from rfl, a2 hi] at hv
  rw [hrun, plainElem_bool_inv he hv]
 ·rw [show (Lit.string s.data.toList) = sLi s from rfl, a1 hi] at hv
  rw [hrun, plainElem_bool_inv he hv]
theorem SetX.add {t : TypeId} (K : Keyed P k) (ht : P.underlying t = some (.map k e)) (hk : P.underlying k = some .string) (he : P.underlying e = some .bool) (h : SetX P w k e b S) (hn : S.length ≤ 16777216) {s : ByteArray} (hs : s.size ≤ 16777216) :
  ∃ w', (Instr.mapUpdate t (.map (some b)) (.string s) (.bool true)).run P w = .ok () w' ∧ SetX P w' k e b (S ++ [s]) ∧ w.grownBy w' (some b) := by
 obtain ⟨D, m, h1, hmS, h3, h2⟩ := h
 have hm : s.size ≤ maxLen := by unfold maxLen; omega
 have hkey : keyOf P k (.string s) = some (sLi s) := keyOf_string_mk hk hm
 obtain ⟨w', hrun, hown, hg⟩ := h1.update K ht (by unfold maxLen; omega) hkey (plainElem_bool he true)
 have e0 : Maps.size (D.put (sLi s) (.lit (.bool true))) ≤ S.length + 1 := by
  rw [Maps.size_put (h1.tidy K), h3]
  split <;> omega
 refine ⟨w', hrun, ⟨_, _, ownsMap_tight2 hown, by rw [List.length_append]; exact e0, rfl, fun q hq => ?_⟩, hg⟩
 rw [inL_snoc]
 by_cases ek : s = q
 ·subst ek
  refine ⟨?_, fun _ z => Maps.atKey_put_same h1.isMap (K.key hkey) _ _, fun hf => ?_⟩
  ·rw [Maps.has_put_same h1.isMap (K.key hkey)]; simp
  ·simp at hf
 ·have e1 : sLi q ≠ sLi s := fun e2 => ek (sLi_inj e2).symm
  obtain ⟨a0, a1, a2⟩ := h2 q hq
  rw [Maps.has_put_other e1, decide_eq_false ek, Bool.or_false]
  exact ⟨a0, fun hi z => by rw [Maps.atKey_put_other e1]; exact a1 hi z, fun hi z => by rw [Maps.atKey_put_other e1]; exact a2 hi z⟩
theorem SetD.keys {D : DataW Unit} {K : List ByteArray} {left : Lit → Bool} (hD : SetD D S) (hown : w.ownsMap P k (plainElem P e) b n D) (KS : Keyed P k) (hk : P.underlying k = some .string) (hC : Collected D left (K.map fun s => s.data.toList)) (hl : ∀ kl, left kl = false) (hS : ∀ s ∈ S, s.size ≤ 16777216) :
  K.Nodup ∧ ∀ x, x ∈ K ↔ x ∈ S := by
 have hin : ∀ x : ByteArray, x ∈ K ↔ x.data.toList ∈ K.map fun s => s.data.toList := fun x => ⟨fun h => List.mem_map.2 ⟨x, h, rfl⟩, fun h => by
  obtain ⟨y, hy, ey⟩ := List.mem_map.1 h
  rw [ba_ext ey] at hy; exact hy⟩
 refine ⟨(List.pairwise_map.1 hC.1).imp fun h e => h (by rw [e]), fun x => ?_⟩
 rw [hin, hC.2, hl]
 constructor
 ·rintro ⟨hh, _⟩
  have hx : x.data.toList ∈ K.map fun s => s.data.toList := (hC.2 _).2 ⟨hh, hl _⟩
  have hz := strKeys_le hown hk _ ((hC.perm hown KS hk hl).mem_iff.1 hx)
  have := (hD x (by simpa using hz)).1
  rw [show sLi x = Lit.string x.data.toList from rfl, hh] at this
  exact inL_iff.1 this.symm
 ·intro h
  have hz := hS x h
  have := (hD x (by unfold maxLen; omega)).1
  rw [inL_iff.2 h] at this
  exact ⟨this, rfl⟩
end
theorem wpList_setx_add {P : Program} {ops : Array Oper} {rest : List Oper} {o : Oper} {a : Act} {Q : Exit → Act → World → Prop} {W : World} {k e : TypeId} {b : Nat} {S : List ByteArray} (hgd : o.guard = none) (M X V : Operand) (t : TypeId) (hop : o.op = Op.mapUpdate t M X V) (K : Keyed P k) (ht : P.underlying t = some (.map k e)) (hk : P.underlying k = some .string) (he : P.underlying e = some .bool) (hm : a.eval M = .map (some b)) (h : SetX P W k e b S) (hn : S.length ≤ 16777216) {s : ByteArray} (hx : a.eval X = .string s) (hv : a.eval V = .bool true) (hs : s.size ≤ 16777216)
  (hK : ∀ w', SetX P w' k e b (S ++ [s]) → W.grownBy w' (some b) → wpList P ops Q rest (a.put o.dst undef) w') : wpList P ops Q (o :: rest) a W :=
 wpList_plain hgd fun K' hK' => by
  obtain ⟨w', hrun, r1, r2⟩ := h.add K ht hk he hn hs
  unfold Oper.wp
  simp [execOp, hop, hm, hx, hv, hrun, Result.andThen]
  exact hK' _ _ (hK w' r1 r2)
end Go.Proofs.YtidolgonmimicaaGreat
namespace Go.Proofs
open Go.Shelf
def Tryz.lays190_ren : Go.Shelf.Ren := ⟨fun | 190 => 155 | 125 => 210 | 258 => 209 | 128 => 242 | 129 => 243 | 302 => 234 | 303 => 235 | 304 => 236 | 305 => 237 | 306 => 238 | 307 => 239 | 308 => 232 | 309 => 240 | 310 => 241 | 333 => 256 | 329 => 257 | 330 => 258 | 334 => 259 | 335 => 260 | 336 => 255 | 344 => 263 | n => n, fun | 31 => 23 | 9 => 9 | 3 => 3 | 46 => 149 | 0 => 0 | 51 => 178 | 53 => 85 | 4 => 4 | 183 => 188 | 182 => 187 | 131 => 60 | 5 => 5 | 218 => 205 | 222 => 209 | 228 => 212 | 229 => 213 | n => n, fun | n => n⟩
theorem Tryz.lays190 : Go.Proofs.Lays.n190 Tryz.prog Tryz.lays190_ren := {
 mixed := by kernel_rfl
 f125 := Tryz.func210.trans (congrArg some (by kernel_rfl))
 f128 := Tryz.func242.trans (congrArg some (by kernel_rfl))
 f129 := Tryz.func243.trans (congrArg some (by kernel_rfl))
 f190 := Tryz.func155.trans (congrArg some (by kernel_rfl))
 f258 := Tryz.func209.trans (congrArg some (by kernel_rfl))
 f302 := Tryz.func234.trans (congrArg some (by kernel_rfl))
 f303 := Tryz.func235.trans (congrArg some (by kernel_rfl))
 f304 := Tryz.func236.trans (congrArg some (by kernel_rfl))
 f305 := Tryz.func237.trans (congrArg some (by kernel_rfl))
 f306 := Tryz.func238.trans (congrArg some (by kernel_rfl))
 f307 := Tryz.func239.trans (congrArg some (by kernel_rfl))
 f308 := Tryz.func232.trans (congrArg some (by kernel_rfl))
 f309 := Tryz.func240.trans (congrArg some (by kernel_rfl))
 f310 := Tryz.func241.trans (congrArg some (by kernel_rfl))
 f329 := Tryz.func257.trans (congrArg some (by kernel_rfl))
 f330 := Tryz.func258.trans (congrArg some (by kernel_rfl))
 f333 := Tryz.func256.trans (congrArg some (by kernel_rfl))
 f334 := Tryz.func259.trans (congrArg some (by kernel_rfl))
 f335 := Tryz.func260.trans (congrArg some (by kernel_rfl))
 f336 := Tryz.func255.trans (congrArg some (by kernel_rfl))
 f344 := Tryz.func263.trans (congrArg some (by kernel_rfl))
 t0 := Tryz.underlying0
 a0 := Tryz.isAgg0
 z0 := Tryz.sizeOf0
 v0 := Tryz.zeroValue0
 t3 := Tryz.underlying3
 a3 := Tryz.isAgg3
 z3 := Tryz.sizeOf3
 v3 := Tryz.zeroValue3
 t4 := Tryz.underlying4
 a4 := Tryz.isAgg4
 z4 := Tryz.sizeOf4
 v4 := Tryz.zeroValue4
 t5 := Tryz.underlying5
 a5 := Tryz.isAgg5
 z5 := Tryz.sizeOf5
 v5 := Tryz.zeroValue5
 t9 := Tryz.underlying9
 a9 := Tryz.isAgg9
 z9 := Tryz.sizeOf9
 v9 := Tryz.zeroValue9
 t31 := Tryz.underlying23
 a31 := Tryz.isAgg23
 z31 := Tryz.sizeOf23
 v31 := Tryz.zeroValue23
 t46 := Tryz.underlying149
 a46 := Tryz.isAgg149
 z46 := Tryz.sizeOf149
 v46 := Tryz.zeroValue149
 t51 := Tryz.underlying178
 a51 := Tryz.isAgg178
 z51 := Tryz.sizeOf178
 v51 := Tryz.zeroValue178
 t53 := Tryz.underlying85
 a53 := Tryz.isAgg85
 z53 := Tryz.sizeOf85
 v53 := Tryz.zeroValue85
 t131 := Tryz.underlying60
 a131 := Tryz.isAgg60
 z131 := Tryz.sizeOf60
 v131 := Tryz.zeroValue60
 t182 := Tryz.underlying187
 a182 := Tryz.isAgg187
 z182 := Tryz.sizeOf187
 v182 := Tryz.zeroValue187
 t183 := Tryz.underlying188
 a183 := Tryz.isAgg188
 z183 := Tryz.sizeOf188
 v183 := Tryz.zeroValue188
 t218 := Tryz.underlying205
 a218 := Tryz.isAgg205
 z218 := Tryz.sizeOf205
 v218 := Tryz.zeroValue205
 t222 := Tryz.underlying209
 a222 := Tryz.isAgg209
 z222 := Tryz.sizeOf209
 v222 := Tryz.zeroValue209
 t228 := Tryz.underlying212
 a228 := Tryz.isAgg212
 z228 := Tryz.sizeOf212
 v228 := Tryz.zeroValue212
 t229 := Tryz.underlying213
 a229 := Tryz.isAgg213
 z229 := Tryz.sizeOf213
 v229 := Tryz.zeroValue213 }
open Go.Sort Go.RowKit in
theorem Tryz.slices_Sort_string (blk off cap : Nat) (ss : List (List UInt8)) (w : World) (hH : Holds encStr w blk off ss.toArray) (hblk : blk < w.heap.size) (hsz : ss.length < 4611686018427387904) :
  Calls Tryz.prog 155 #[.slice (some ⟨blk, off, none⟩) ss.length cap] w fun e w' =>
   e = .returned (.tuple #[]) ∧ ∃ n os, w' = grow (putRow encStr (Sort.ahead w n) blk off (ss.mergeSort fun x y => decide (x ≤ y)).toArray) os := Any.slices_Sort_string Tryz.lays190 blk off cap ss w hH hblk hsz
end Go.Proofs
namespace Go.Proofs.YtidolgonmimicaaGreat
open Go.ChangeShapes Go.WideShapes Go.ChangeAt Go.RowKit Go.Deep
theorem bytes_lt : ∀ a b : List UInt8, Op.bytesLess a b = decide (a < b)
 | [], [] => by simp [Op.bytesLess]
 | [], _ :: _ => by simp [Op.bytesLess]
 | _ :: _, [] => by simp [Op.bytesLess]
 | x :: a, y :: b => by
  rw [Op.bytesLess, bytes_lt a b]
  simp only [List.cons_lt_cons_iff]
  rcases Nat.lt_trichotomy x.toNat y.toNat with h | h | h
  ·have h1 : x < y := h
   simp [h1]
  ·have h1 : x = y := UInt8.toNat_inj.1 h
   subst h1; simp
  ·have h1 : ¬ x < y := fun q => Nat.lt_asymm h q
   have h2 : ¬ x = y := fun q => by subst q; exact Nat.lt_irrefl _ h
   simp [h1, h2]
theorem ba_list (s : ByteArray) : (⟨s.data.toList.toArray⟩ : ByteArray) = s := by cases s; simp
theorem le_leS {x y : List UInt8} (h : decide (x ≤ y) = true) : leS ⟨x.toArray⟩ ⟨y.toArray⟩ = true := by
 rw [leS, less, ByteArray.toList_eq, ByteArray.toList_eq, bytes_lt]
 simpa using h
theorem sort_strs {g n c base : Nat} {l : List ByteArray} {w : World} (ho : Owned strE 1 9 w base (some ⟨g, 0, none⟩) n c l) (hn : n ≤ 16777216) :
  Calls Tryz.prog 155 #[.slice (some ⟨g, 0, none⟩) n c] w fun e w' => e = .returned (.tuple #[]) ∧ ∃ L, Owned strE 1 9 w' base (some ⟨g, 0, none⟩) n c L ∧ L.Perm l ∧ Srt L ∧ w.grownBy w' (some g) := by
 obtain ⟨he, hl, _, hv⟩ := ho
 rcases hv with ⟨h0, _⟩ | ⟨g', c', cur, hv, hbase, hb, h1, h2, h3, h4⟩
 ·cases h0
 cases hv
 obtain ⟨ss, hss⟩ : ∃ ss, ss = l.map fun s : ByteArray => s.data.toList := ⟨_, rfl⟩
 have hlen : ss.length = n := by rw [hss, List.length_map, hl]
 have hE : ∀ m : List ByteArray, m.flatMap strE = (m.map fun s : ByteArray => s.data.toList).map encStr := fun m => by
  rw [show strE = fun s => [Value.string s] from rfl, flatMap_one, List.map_map]
  exact List.map_congr_left fun s _ => by simp [encStr, ba_list]
 have hH : Sort.Holds encStr w g 0 ss.toArray := holds_of_block hb (by rw [hlen, hss, ← hE]; simpa using h4)
 have hc := Tryz.slices_Sort_string g 0 c ss w hH (Array.getElem?_eq_some_iff.1 hb).1 (by omega)
 rw [hlen] at hc
 refine hc.mono ?_
 rintro e w' ⟨rfl, k, os, rfl⟩
 refine ⟨rfl, (ss.mergeSort fun x y => decide (x ≤ y)).map fun x => (⟨x.toArray⟩ : ByteArray), ?_, ?_, ?_, grownBy_sorted _⟩
 ·have hr := ownsRow_sorted (n := k) (os := os) (ss := ss) (ts := ss.mergeSort fun x y => decide (x ≤ y)) (by simp) hbase hb (by rw [hlen]; exact h1) h2 h3
  rw [hlen] at hr
  refine ⟨he, by simp [hlen], ?_⟩
  have e2 : ((ss.mergeSort fun x y => decide (x ≤ y)).map fun x : List UInt8 => (⟨x.toArray⟩ : ByteArray)).map (fun s : ByteArray => s.data.toList) = ss.mergeSort fun x y => decide (x ≤ y) := by
   rw [List.map_map, List.map_congr_left (g := id) (fun x _ => by simp)]; simp
  rw [hE, e2]
  exact hr
 ·have hp : (ss.mergeSort fun x y => decide (x ≤ y)).Perm ss := List.mergeSort_perm _ _
  have hq := hp.map fun x => (⟨x.toArray⟩ : ByteArray)
  rw [hss, List.map_map] at hq
  have e1 : l.map ((fun x : List UInt8 => (⟨x.toArray⟩ : ByteArray)) ∘ fun s : ByteArray => s.data.toList) = l := by
   rw [List.map_congr_left (g := id) (fun s _ => by exact ba_list s)]; simp
  rw [e1] at hq
  rw [hss]; exact hq
 ·have hs := List.pairwise_mergeSort (le := fun x y : List UInt8 => decide (x ≤ y)) (fun a b c h1 h2 => by simp at h1 h2 ⊢; exact List.le_trans h1 h2) (fun a b => by simp; exact List.le_total a b) ss
  rw [Srt, List.pairwise_map]
  exact hs.imp fun h => le_leS h
end Go.Proofs.YtidolgonmimicaaGreat
namespace Go.Proofs.YtidolgonmimicaaGreat
open Go.ChangeShapes Go.WideShapes Go.ChangeAt Go.RowKit Go.Deep
end Go.Proofs.YtidolgonmimicaaGreat
namespace Go.Proofs.YtidolgonmimicaaGreat
open Go.ChangeShapes Go.WideShapes Go.ChangeAt Go.RowKit Go.Deep
open Go.Maps (Keyed string_keyed)
theorem goodM_valid {nm : ByteArray} {st : Int} {l : List ByteArray} (h : goodM nm st l = true) : ∀ s ∈ l, isDash s = true ∨ validD s = true := fun s hs => by
 have h1 := (goodM_t h).2.2.2
 rw [allCh, List.all_eq_true] at h1
 obtain ⟨k, hk⟩ := List.getElem?_of_mem hs
 have h2 := h1 k (List.mem_range.2 (List.getElem?_eq_some_iff.1 hk).1)
 rw [okCh_at hk] at h2
 exact good_valid h2
theorem strs_map {P : Program} {k t : TypeId} {w w' : World} {b : Nat} {A : Option Addr} {l S : List ByteArray} (h : Strs w A l) (g : SetX P w k t b S) (hg : w.grownBy w' (some b)) : Strs w' A l := by
 obtain ⟨D, m, ⟨es, clock, hm, _⟩, _⟩ := g
 refine ⟨h.1, h.2.1, fun hn => ?_⟩
 obtain ⟨b', o', hA, hb, hc⟩ := h.2.2 hn
 subst hA
 have hne : b' ≠ b := by
  intro e
  subst e
  obtain ⟨u, hu⟩ : ∃ u, (l.flatMap strE)[0]? = some u := ⟨_, List.getElem?_eq_getElem (by rw [flatMap_len strE_len]; omega)⟩
  have := hc 0 u hu
  simp [World.cell?, hm] at this
 exact ⟨b', o', rfl, Nat.lt_of_lt_of_le hb hg.size, fun j u hu => (hg.cell_far ⟨b', o' + j, none⟩ hb (fun e => by injection e with e; exact hne e)).trans (hc j u hu)⟩
theorem falTo_len (L : List ByteArray) (k : Nat) (h : k ≤ L.length) : (falTo L k).length ≤ L.length * L.length := by
 have : ∀ M : List ByteArray, (M.flatMap fun r => L.map fun s => timesS r (turnS s)).length = M.length * L.length := by
  intro M
  induction M with
  | nil => simp
  | cons a M ih => rw [List.flatMap_cons, List.length_append, ih, List.length_map, List.length_cons, Nat.succ_mul, Nat.add_comm]
 rw [falTo, this, List.length_take]
 exact Nat.mul_le_mul (by omega) (Nat.le_refl _)
theorem prodL_len (r : ByteArray) (L : List ByteArray) (k : Nat) : (prodL r L k).length ≤ L.length := by
 rw [prodL, List.length_map, List.length_take]; omega
set_option maxHeartbeats 1000000 in
set_option maxRecDepth 100000 in
theorem impl_leadTrue {A : Option Addr} {n c st : Nat} {nm : ByteArray} {l : List ByteArray} {w : World} (hn : l.length = n) (h : Strs w A l) (hz : n ≤ 1048576) (hs : ∀ s ∈ l, s.size ≤ 16777216) (hnm : nm.size ≤ 16777216) (h9 : st ≤ 1000) (hg : goodM nm (st : Int) l = true) :
  Calls Tryz.prog 107 #[.agg #[.string nm, .int .i64 st, .slice A n c]] w fun e w' => e = .returned (.bool (nodupB (leadL st l))) ∧ Below w.heap.size w w' := by
 have b0 : Below w.heap.size w (w.alloc (.cells ⟨[.string nm, .int .i64 st, .slice A n c]⟩ 25)) := by (repeat' (first | (with_reducible exact Below.refl _ _) | (with_reducible assumption) | (with_reducible refine below_drewN ?_ _) | (with_reducible refine Below.drew ?_) | (with_reducible refine below_alloc ?_ _) | (with_reducible refine Below.alloc ?_ ?_ _) | (with_reducible refine Below.setCell ?_ ?_ _) | (with_reducible refine below_go ?_ (by with_reducible assumption)) | (with_reducible refine below_then (by with_reducible assumption) ?_ ?_) | go_size))
 have K0 := Blk.at_ w 25 [.string nm, .int .i64 st, .slice A n c] (b := w.heap.size) rfl
 have HS := Lib.hid hs
 have HGV := Lib.hid (goodM_valid hg)
 have h38 := (goodM_st hg).1
 have hr8 : (roundsS st).size ≤ 8 := by rw [rounds_size st (by omega)]; exact h38.2
 have HR := Lib.hid (leadL_row h38.1 h38.2 l)
 have H0 := h.up b0
 have k0 := K0.cell 0; have k1 := K0.cell 1; have k2 := K0.cell 2
 simp only [List.getElem?_cons_zero, List.getElem?_cons_succ] at k0 k1 k2
 clear hg
 go_in
 go_upto_region 1 with fail
 obtain ⟨w0, hw0⟩ : ∃ u, u = (w.alloc (.cells #[.string nm, .int .i64 st, .slice A n c] 25)) := ⟨_, rfl⟩
 rw [← hw0] at b0 K0 H0 k0 k1 k2 ⊢
 clear hw0
 refine wp_region_still_tail 4 (by kernel_rfl) (by kernel_rfl) ?_
 simp only [List.take_succ_cons, List.take_zero, List.drop_succ_cons, List.drop_zero]
 repeat still_step
 still_call (turnC (impl_rounds h38.2))
 repeat still_step
 refine wpStill_nil ?_
 change wpList _ _ _ _ _ w0.drew
 go_wp2_with fail
 refine (impl_leadRows hr8 hn H0.drew hz HS.out HGV.out).mono ?_; rintro e w2 ⟨A2, c2, rfl, ho, hbd⟩
 have hb2 := below_of_drew hbd
 rw [← leadL_n hn] at ho
 go_wp2_with fail
 refine (impl_isTrue (by rw [leadL_len]; exact hn) ho (by omega) (fun s hs => by have h1 := (HR.out s hs).2; omega)).mono ?_; rintro e w3 ⟨rfl, hb3⟩
 go_wp2
 go_ret
 exact ⟨rfl, below_go (below_go b0 hb2) hb3⟩
set_option maxHeartbeats 2000000 in
set_option maxRecDepth 100000 in
theorem impl_falseSet {A : Option Addr} {n c st : Nat} {nm : ByteArray} {l : List ByteArray} {w : World} (hn : l.length = n) (h : Strs w A l) (hz : n ≤ 1048576) (hs : ∀ s ∈ l, s.size ≤ 16777216) (hnm : nm.size ≤ 16777216) (h9 : st ≤ 1000) (hg : goodM nm (st : Int) l = true) :
  Calls Tryz.prog 100 #[.agg #[.string nm, .int .i64 st, .slice A n c], .agg #[.string nm, .int .i64 st, .slice A n c]] w fun e w' => ∃ b, e = .returned (.map (some b)) ∧ SetX Tryz.prog w' 9 4 b (falL (leadL st l)) ∧ w.heap.size ≤ b ∧ Below w.heap.size w w' := by
 have b0 : Below w.heap.size w ((w.alloc (.cells ⟨[.string nm, .int .i64 st, .slice A n c]⟩ 25)).alloc (.cells ⟨[.string nm, .int .i64 st, .slice A n c]⟩ 25)) := by (repeat' (first | (with_reducible exact Below.refl _ _) | (with_reducible assumption) | (with_reducible refine below_drewN ?_ _) | (with_reducible refine Below.drew ?_) | (with_reducible refine below_alloc ?_ _) | (with_reducible refine Below.alloc ?_ ?_ _) | (with_reducible refine Below.setCell ?_ ?_ _) | (with_reducible refine below_go ?_ (by with_reducible assumption)) | (with_reducible refine below_then (by with_reducible assumption) ?_ ?_) | go_size))
 have K0 := (Blk.at_ w 25 [.string nm, .int .i64 st, .slice A n c] (b := w.heap.size) rfl).alloc (.cells ⟨[.string nm, .int .i64 st, .slice A n c]⟩ 25)
 have J0 := Blk.at_ (w.alloc (.cells ⟨[.string nm, .int .i64 st, .slice A n c]⟩ 25)) 25 [.string nm, .int .i64 st, .slice A n c] (b := w.heap.size + 1) (by simp)
 have hmm := @run_makeMap Tryz.prog
 have KS := string_keyed (P := Tryz.prog) (k := 9) Tryz.underlying9
 have HS := Lib.hid hs
 have HGV := Lib.hid (goodM_valid hg)
 have hgs := goodM_st hg
 have h38 := hgs.1
 have hr8 : (roundsS st).size ≤ 8 := by rw [rounds_size st (by omega)]; exact h38.2
 have HR := Lib.hid (leadL_row h38.1 h38.2 l)
 have H0 := h.up b0
 obtain ⟨L, hL1⟩ : ∃ u, u = leadL st l := ⟨_, rfl⟩
 have hLn : L.length = n := by rw [hL1, leadL_len]; exact hn
 rw [← hL1] at HR ⊢
 have HL1 := Lib.hid hL1
 have HLn := Lib.hid hLn
 have hn40 : n ≤ 40 := by omega
 clear hL1 hLn hgs hg
 go_in
 go_upto_region 2 with fail
 clear hmm
 obtain ⟨w0, hw0⟩ : ∃ u, u = ((w.alloc (.cells #[.string nm, .int .i64 st, .slice A n c] 25)).alloc (.cells #[.string nm, .int .i64 st, .slice A n c] 25)) := ⟨_, rfl⟩
 have z0 : w0.heap.size = w.heap.size + 2 := by rw [hw0]; simp
 rw [← hw0] at b0 K0 J0 H0 ⊢
 clear hw0
 have M0 : SetX Tryz.prog (w0.alloc (.map #[] 0)) 9 4 (w.heap.size + 2) [] := SetX.made_at _ _ _ _ z0.symm
 have a0 : Below w0.heap.size w0 (w0.alloc (.map #[] 0)) := by (repeat' (first | (with_reducible exact Below.refl _ _) | (with_reducible assumption) | (with_reducible refine below_drewN ?_ _) | (with_reducible refine Below.drew ?_) | (with_reducible refine below_alloc ?_ _) | (with_reducible refine Below.alloc ?_ ?_ _) | (with_reducible refine Below.setCell ?_ ?_ _) | (with_reducible refine below_go ?_ (by with_reducible assumption)) | (with_reducible refine below_then (by with_reducible assumption) ?_ ?_) | go_size))
 have K0 := K0.up a0
 have J0 := J0.up a0
 have H0 := H0.up a0
 have b0 := below_go b0 a0
 obtain ⟨w1, hw1⟩ : ∃ u, u = w0.alloc (.map #[] 0) := ⟨_, rfl⟩
 rw [← hw1] at K0 J0 H0 M0 b0 ⊢
 clear hw1 a0 z0
 have k0 := K0.cell 0; have k1 := K0.cell 1; have k2 := K0.cell 2
 simp only [List.getElem?_cons_zero, List.getElem?_cons_succ] at k0 k1 k2
 go_region_held3 (fun u => u.cell? ⟨w.heap.size, 0, none⟩ = some (.string nm) ∧ u.cell? ⟨w.heap.size, 1, none⟩ = some (.int .i64 (st : Int)) ∧ u.cell? ⟨w.heap.size, 2, none⟩ = some (.slice A n c)) (first | exact ⟨k0d, k1d, k2d⟩ | exact ⟨k0, k1, k2⟩) (first | (go_at_call 105; refine (impl_rounds h38.2).mono ?_; rintro e w' ⟨rfl, rfl⟩) | (go_at_call 104; refine (impl_leadRows hr8 hn H0.drew hz HS.out HGV.out).mono ?_; rintro e w2 ⟨A2, c2, rfl, ho2, hbd⟩; have hb2 := below_of_drew hbd; have K2 := K0.up hb2; have k0d := K2.cell 0; have k1d := K2.cell 1; have k2d := K2.cell 2; simp only [List.getElem?_cons_zero, List.getElem?_cons_succ] at k0d k1d k2d))
 rw [← leadL_n hn, ← HL1.out] at ho2
 have B2 := below_go b0 hb2
 have HM2 := Lib.hid (M0.up hb2)
 have R2 := Lib.hid ho2
 have HJ2 := Lib.hid (J0.up hb2)
 have HH2 := Lib.hid (H0.up hb2)
 clear K0 H0 J0 M0 ho2 hbd hb2 k0 k1 k2 k0d k1d k2d K2 h b0
 go_wp2
 go_loopw [17] (fun i wr => ∃ (k : Nat), k ≤ n ∧ i = .int .i64 k ∧ Hid (SetX Tryz.prog wr 9 4 (w.heap.size + 2) (falTo L k)) ∧ Hid (Strs wr A2 L) ∧ Hid (Blk wr (w.heap.size + 1) 25 [.string nm, .int .i64 st, .slice A n c]) ∧ Hid (Strs wr A l) ∧ Below w.heap.size w wr) (fun i _ => n - (intOf i).toNat)
 case atStart => exact ⟨0, Nat.zero_le _, rfl, Lib.hid (by rw [falTo_zero]; exact HM2.out), R2, HJ2, HH2, B2⟩
 case round =>
  obtain ⟨k, hk, rfl, HM, HR2, HJ, HH, hb⟩ := hrel
  rename World => wo
  have hszo := hb.size
  by_cases hlt : k < n
  ·obtain ⟨b1, o1, x, hA2, _, hx, hcx⟩ := HR2.out.at_str (k := k) (by rw [HLn.out]; exact hlt)
   subst hA2
   have hxN := Lib.hid (HR.out x (List.mem_of_getElem? hx))
   have HTS := Lib.hid (falTo_succ hx)
   have hI : (k : Int) < (n : Int) := by omega
   have k0 := HJ.out.cell 0; have k1 := HJ.out.cell 1; have k2 := HJ.out.cell 2
   simp only [List.getElem?_cons_zero, List.getElem?_cons_succ] at k0 k1 k2
   have J0 := HJ.out
   clear hx
   go_upto_region 5 with fail
   go_region_held3 (fun u => u.cell? ⟨w.heap.size + 1, 0, none⟩ = some (.string nm) ∧ u.cell? ⟨w.heap.size + 1, 1, none⟩ = some (.int .i64 (st : Int)) ∧ u.cell? ⟨w.heap.size + 1, 2, none⟩ = some (.slice A n c)) (first | exact ⟨k0d, k1d, k2d⟩ | exact ⟨k0, k1, k2⟩) (first | (go_at_call 105; refine (impl_rounds h38.2).mono ?_; rintro e w' ⟨rfl, rfl⟩) | (go_at_call 104; refine (impl_leadRows hr8 hn HH.out.drew hz HS.out HGV.out).mono ?_; rintro e w3 ⟨A3, c3, rfl, ho3, hbd⟩; have hb3 := below_of_drew hbd; have K2 := J0.up hb3; have k0d := K2.cell 0; have k1d := K2.cell 1; have k2d := K2.cell 2; simp only [List.getElem?_cons_zero, List.getElem?_cons_succ] at k0d k1d k2d))
   rw [← leadL_n hn, ← HL1.out] at ho3
   have B3 := below_go hb hb3
   have HM3 := Lib.hid (HM.out.up hb3)
   have R3 := Lib.hid ho3
   have RO3 := Lib.hid (HR2.out.up hb3)
   have HJ3 := Lib.hid (HJ.out.up hb3)
   have HH3 := Lib.hid (HH.out.up hb3)
   clear ho3 hbd hb3 k0 k1 k2 k0d k1d k2d K2 J0
   go_wp2
   go_loopw [27] (fun i wr => ∃ (j : Nat), j ≤ n ∧ i = .int .i64 j ∧ Hid (SetX Tryz.prog wr 9 4 (w.heap.size + 2) (falTo L k ++ prodL x L j)) ∧ Hid (w3.grownBy wr (some (w.heap.size + 2)))) (fun i _ => n - (intOf i).toNat)
   case atStart => exact ⟨0, Nat.zero_le _, rfl, Lib.hid (by rw [prodL_zero, List.append_nil]; exact HM3.out), Lib.hid (grown_any (Below.refl _ _) _)⟩
   case round =>
    obtain ⟨j, hj, rfl, HMQ, HGQ⟩ := hrel
    rename World => wq
    have HRQ := Lib.hid (strs_map R3.out HM3.out HGQ.out)
    have hszq := HGQ.out.size
    by_cases hjt : j < n
    ·obtain ⟨b2, o2, y, hA3, _, hy, hcy⟩ := HRQ.out.at_str (k := j) (by rw [HLn.out]; exact hjt)
     subst hA3
     have hyN := HR.out y (List.mem_of_getElem? hy)
     have HPS := Lib.hid (prodL_succ (r := x) hy)
     have HLB := Lib.hid (show (falTo L k ++ prodL x L j).length ≤ 16777216 by
      have h1 := falTo_len L k (by rw [HLn.out]; exact hk)
      have h2 := prodL_len x L j
      have h3 := HLn.out
      have h4 : L.length * L.length ≤ 40 * 40 := Nat.mul_le_mul (by omega) (by omega)
      rw [List.length_append]; omega)
     have hty := turn_rowN hyN
     have hft := rowN_fits hxN.out hty
     have hxs : x.size ≤ 16777216 := by have := hxN.out.2; omega
     have hts : (turnS y).size ≤ 16777216 := by have := hty.2; omega
     have hzs : (timesS x (turnS y)).size ≤ 16777216 := by have := (hxN.out.times hty).2; omega
     have HYG := Lib.hid hyN.1
     clear hy hyN hty
     go_wp2_with fail
     refine (impl_turned HYG.out).mono ?_; rintro e w5 ⟨rfl, hb5, _⟩
     go_wp2_with fail
     refine (impl_times hxs hts hft).mono ?_; rintro e w6 ⟨rfl, hb6⟩
     have HM6 := Lib.hid ((HMQ.out.up hb5).up hb6)
     have HG6 := Lib.hid (grownBy_trans (grownBy_trans HGQ.out (grown_any hb5 _)) (grown_any hb6 _))
     obtain ⟨z, hz⟩ : ∃ u, u = timesS x (turnS y) := ⟨_, rfl⟩
     rw [← hz] at HPS hzs ⊢
     clear hz hb5 hb6
     go_wp2_with (first | (at_mapUpdate; go_must ((refine wpList_setx_add rfl (.tmp 31) (.tmp 35) (.const (.bool true)) 110 rfl KS Tryz.underlying110 Tryz.underlying9 Tryz.underlying4 rfl HM6.out HLB.out rfl rfl hzs ?_; intro w8 hm8 hg8))))
     go_roundw
     case rel => exact ⟨j + 1, by omega, by go_num, Lib.hid (by rw [HPS.out, ← List.append_assoc]; exact hm8), Lib.hid (grownBy_trans HG6.out hg8)⟩
     case measure => simp [intOf]; omega
    ·obtain rfl : j = n := by omega
     have hJ : ¬ (j : Int) < (j : Int) := by omega
     go_wp2
     go_roundw
     case rel => exact ⟨k + 1, by omega, by go_num, Lib.hid (by have h1 := HMQ.out; rw [HTS.out, HLn.out]; exact h1), Lib.hid (strs_map RO3.out HM3.out HGQ.out), Lib.hid (HJ3.out.grown HGQ.out (fun e => by injection e with e; omega)), Lib.hid (strs_map HH3.out HM3.out HGQ.out), B3.grown HGQ.out B3.size (fun z hz => by injection hz with hz; omega)⟩
     case measure => simp [intOf]; omega
  ·obtain rfl : k = n := by omega
   have hI : ¬ (k : Int) < (k : Int) := by omega
   have HALL := Lib.hid (show falTo L k = falL L by rw [← HLn.out, falTo_all])
   go_wp2
   go_ret
   exact ⟨_, rfl, by rw [← HALL.out]; exact HM.out, by omega, hb⟩
end Go.Proofs.YtidolgonmimicaaGreat
namespace Go.Proofs.YtidolgonmimicaaGreat
open Go.ChangeShapes Go.WideShapes Go.ChangeAt Go.RowKit Go.Deep
open Go.Maps (Keyed string_keyed)
def seaC (nm : ByteArray) (st : Nat) (A : Option Addr) (n c : Nat) (kb ks : ByteArray) (N : Nat) (lt : Bool) (b : Nat) (lf : Int) (tv cv : Value) (ok : Bool) : List Value :=
 [.string nm, .int .i64 (st : Int), .slice A n c, .string kb, .string ks, .int .i64 (N : Int), .bool lt, .map (some b), .int .i64 lf, tv, cv, .bool ok]
set_option maxHeartbeats 1000000 in
theorem impl_goodSearch {A : Option Addr} {n c st : Nat} {nm : ByteArray} {l : List ByteArray} {kb ks : ByteArray} {N : Nat} {w : World} (hn : l.length = n) (h : Strs w A l) (hz : n ≤ 1048576) (hs : ∀ s ∈ l, s.size ≤ 16777216) (hnm : nm.size ≤ 16777216) (h9 : st ≤ 1000) (hkb : kb.size ≤ 16777216) (hks : ks.size ≤ 16777216) (hN : N ≤ 1000) :
  Calls Tryz.prog 74 #[.agg #[.string nm, .int .i64 st, .slice A n c], .agg #[.string kb, .string ks], .int .i64 (N : Int)] w fun e w' => e = .returned (.bool (goodK nm (st : Int) l kb ks && inB (N : Int) 1 6)) ∧ Below w.heap.size w w' := by
 have b0 : Below w.heap.size w ((w.alloc (.cells ⟨[.string nm, .int .i64 st, .slice A n c]⟩ 25)).alloc (.cells ⟨[.string kb, .string ks]⟩ 27)) := by (repeat' (first | (with_reducible exact Below.refl _ _) | (with_reducible assumption) | (with_reducible refine below_drewN ?_ _) | (with_reducible refine Below.drew ?_) | (with_reducible refine below_alloc ?_ _) | (with_reducible refine Below.alloc ?_ ?_ _) | (with_reducible refine Below.setCell ?_ ?_ _) | (with_reducible refine below_go ?_ (by with_reducible assumption)) | (with_reducible refine below_then (by with_reducible assumption) ?_ ?_) | go_size))
 have hI : I64 (st : Int) := ⟨by omega, by omega⟩
 go_in
 go_wp2_with fail
 refine (impl_GoodCalls hn (h.up b0) hz hs hnm hI hkb hks).mono ?_; rintro e w1 ⟨rfl, hb1⟩
 have B1 := below_go b0 hb1
 rcases hk : goodK nm (st : Int) l kb ks
 ·have e2 := Lib.hid hk
  go_wp2
  go_ret
  rw [e2.out]
  exact ⟨rfl, B1⟩
 ·have e2 := Lib.hid hk
  go_wp2_with fail
  refine (impl_within _ _ _ _).mono ?_; rintro e w2 ⟨rfl, rfl⟩
  go_wp2
  go_ret
  rw [e2.out]
  exact ⟨rfl, B1⟩
set_option maxHeartbeats 4000000 in
set_option maxRecDepth 100000 in
theorem impl_newSearcher {A : Option Addr} {n c st : Nat} {nm : ByteArray} {l : List ByteArray} {kb ks : ByteArray} {N : Nat} {w : World} (hn : l.length = n) (h : Strs w A l) (hz : n ≤ 1048576) (hs : ∀ s ∈ l, s.size ≤ 16777216) (hnm : nm.size ≤ 16777216) (h9 : st ≤ 1000) (hk : goodK nm (st : Int) l kb ks = true) (hN : N ≤ 1000) :
  Calls Tryz.prog 75 #[.agg #[.string nm, .int .i64 st, .slice A n c], .agg #[.string kb, .string ks], .int .i64 (N : Int)] w fun e w' => ∃ B b, e = .returned (.pointer (some ⟨B, 0, none⟩)) ∧ Blk w' B 136 (seaC nm st A n c kb ks N (nodupB (leadL st l)) b 0 (.slice none 0 0) (.slice none 0 0) false) ∧ SetX Tryz.prog w' 9 4 b (falL (leadL st l)) ∧ w.heap.size ≤ b ∧ b < B ∧ Below w.heap.size w w' := by
 have b0 : Below w.heap.size w ((w.alloc (.cells ⟨[.string nm, .int .i64 st, .slice A n c]⟩ 25)).alloc (.cells ⟨[.string kb, .string ks]⟩ 27)) := by (repeat' (first | (with_reducible exact Below.refl _ _) | (with_reducible assumption) | (with_reducible refine below_drewN ?_ _) | (with_reducible refine Below.drew ?_) | (with_reducible refine below_alloc ?_ _) | (with_reducible refine Below.alloc ?_ ?_ _) | (with_reducible refine Below.setCell ?_ ?_ _) | (with_reducible refine below_go ?_ (by with_reducible assumption)) | (with_reducible refine below_then (by with_reducible assumption) ?_ ?_) | go_size))
 have K0 := (Blk.at_ w 25 [.string nm, .int .i64 st, .slice A n c] (b := w.heap.size) rfl).alloc (.cells ⟨[.string kb, .string ks]⟩ 27)
 have J0 := Blk.at_ (w.alloc (.cells ⟨[.string nm, .int .i64 st, .slice A n c]⟩ 25)) 27 [.string kb, .string ks] (b := w.heap.size + 1) (by simp)
 have hGM := (goodK_t hk).1
 go_in
 go_upto_region 1 with fail
 obtain ⟨w0, hw0⟩ : ∃ u, u = ((w.alloc (.cells #[.string nm, .int .i64 st, .slice A n c] 25)).alloc (.cells #[.string kb, .string ks] 27)) := ⟨_, rfl⟩
 rw [← hw0] at b0 K0 J0 ⊢
 clear hw0
 have H0 := Lib.hid (h.up b0)
 have CA : Hid (∀ u : World, Below w0.heap.size w0 u → (u.cell? ⟨w.heap.size, 0, none⟩ = some (.string nm) ∧ u.cell? ⟨w.heap.size, 1, none⟩ = some (.int .i64 st) ∧ u.cell? ⟨w.heap.size, 2, none⟩ = some (.slice A n c)) ∧ u.cell? ⟨w.heap.size + 1, 0, none⟩ = some (.string kb) ∧ u.cell? ⟨w.heap.size + 1, 1, none⟩ = some (.string ks)) := Lib.hid (fun u hu => by
  have L0 := K0.up hu; have L1 := J0.up hu
  exact ⟨⟨by simpa using L0.cell 0, by simpa using L0.cell 1, by simpa using L0.cell 2⟩, by simpa using L1.cell 0, by simpa using L1.cell 1⟩)
 clear h K0 J0
 have C0 : Below w0.heap.size w0 w0.drew := (Below.refl _ _).drew
 refine wp_region_held_drew (S := fun u => (u.cell? ⟨w.heap.size, 0, none⟩ = some (.string nm) ∧ u.cell? ⟨w.heap.size, 1, none⟩ = some (.int .i64 st) ∧ u.cell? ⟨w.heap.size, 2, none⟩ = some (.slice A n c)) ∧ u.cell? ⟨w.heap.size + 1, 0, none⟩ = some (.string kb) ∧ u.cell? ⟨w.heap.size + 1, 1, none⟩ = some (.string ks)) (by kernel_rfl) (CA.out _ C0) (fun hHeld => ?_)
 refine takeH 0 7 (v := ?_) rfl (by kernel_rfl) (by kernel_rfl) (by kernel_rfl) (fun _ _ _ h => h) (Or.inl ⟨by rfl, ?_⟩) (by assumption) ?_
 rotate_left
 ·(intro w hSw; (try dsimp only at hSw); go_simp) <;> with_reducible rfl
 (try simp only [Act.put, List.setIfInBounds_toArray, List.set_cons_zero, List.set_cons_succ])
 refine takeH 1 8 (v := ?_) rfl (by kernel_rfl) (by kernel_rfl) (by kernel_rfl) (fun _ _ _ h => h) (Or.inl ⟨by rfl, ?_⟩) (by assumption) ?_
 rotate_left
 ·(intro w hSw; (try dsimp only at hSw); go_simp) <;> with_reducible rfl
 (try simp only [Act.put, List.setIfInBounds_toArray, List.set_cons_zero, List.set_cons_succ])
 refine takeH 2 9 (v := ?_) rfl (by kernel_rfl) (by kernel_rfl) (by kernel_rfl) (fun _ _ _ h => h) (Or.inl ⟨by rfl, ?_⟩) (by assumption) ?_
 rotate_left
 ·(intro w hSw; (try dsimp only at hSw); go_simp) <;> with_reducible rfl
 (try simp only [Act.put, List.setIfInBounds_toArray, List.set_cons_zero, List.set_cons_succ])
 refine takeH 3 10 (v := ?_) rfl (by kernel_rfl) (by kernel_rfl) (by kernel_rfl) (fun _ _ _ h => h) (Or.inl ⟨by rfl, ?_⟩) (by assumption) ?_
 rotate_left
 ·(intro w hSw; (try dsimp only at hSw); go_simp) <;> with_reducible rfl
 (try simp only [Act.put, List.setIfInBounds_toArray, List.set_cons_zero, List.set_cons_succ])
 refine takeH 5 12 (v := ?_) rfl (by kernel_rfl) (by kernel_rfl) (by kernel_rfl) (fun _ _ _ h => h) (Or.inl ⟨by rfl, ?_⟩) (by assumption) ?_
 rotate_left
 ·(intro w hSw; (try dsimp only at hSw); go_simp) <;> with_reducible rfl
 (try simp only [Act.put, List.setIfInBounds_toArray, List.set_cons_zero, List.set_cons_succ])
 refine takeH 6 13 (v := ?_) rfl (by kernel_rfl) (by kernel_rfl) (by kernel_rfl) (fun _ _ _ h => h) (Or.inl ⟨by rfl, ?_⟩) (by assumption) ?_
 rotate_left
 ·(intro w hSw; (try dsimp only at hSw); go_simp) <;> with_reducible rfl
 (try simp only [Act.put, List.setIfInBounds_toArray, List.set_cons_zero, List.set_cons_succ])
 refine wpAnyH_ready (rs := [4]) (by kernel_rfl) (by simp) ?_
 refine AllReadyH.cons (o := _) rfl (fun K hK => ?_) AllReadyH.nil
 go_simp
 refine (impl_leadTrue (nm := nm) hn (H0.out.up C0) hz hs hnm h9 hGM).mono ?_; rintro e w3 ⟨rfl, hb3⟩
 have C3 := below_go C0 hb3
 try go_wp2_with fail
 refine hK.out _ _ (CA.out _ C3) (fun hHeld => ?_)
 clear hK K
 (try simp only [Act.put, List.setIfInBounds_toArray, List.set_cons_zero, List.set_cons_succ])
 refine wpAnyH_ready (rs := [7]) (by kernel_rfl) (by simp) ?_
 refine AllReadyH.cons (o := _) rfl (fun K hK => ?_) AllReadyH.nil
 go_simp
 refine (impl_falseSet (nm := nm) hn (H0.out.up C3) hz hs hnm h9 hGM).mono ?_; rintro e w4 ⟨b, rfl, hm4, hlo4, hb4⟩
 have C4 := below_go C3 hb4
 have HM4 := Lib.hid hm4
 have hlt4 := hm4.lt
 clear hm4
 try go_wp2_with fail
 refine hK.out _ _ (CA.out _ C4) (fun hHeld => ?_)
 clear hK K
 (try simp only [Act.put, List.setIfInBounds_toArray, List.set_cons_zero, List.set_cons_succ])
 refine takeH 8 15 (v := ?_) rfl (by kernel_rfl) (by kernel_rfl) (by kernel_rfl) (fun _ _ _ h => h) (Or.inl ⟨by rfl, ?_⟩) (by assumption) ?_
 rotate_left
 ·(intro w hSw; (try dsimp only at hSw); go_simp) <;> with_reducible rfl
 (try simp only [Act.put, List.setIfInBounds_toArray, List.set_cons_zero, List.set_cons_succ])
 have KB := Blk.at_ w4 136 (seaC nm st A n c kb ks N (nodupB (leadL st l)) b 0 (.slice none 0 0) (.slice none 0 0) false) (b := w4.heap.size) rfl
 have C5 : Below w0.heap.size w0 (w4.alloc (.cells ⟨seaC nm st A n c kb ks N (nodupB (leadL st l)) b 0 (.slice none 0 0) (.slice none 0 0) false⟩ 136)) := C4.alloc C4.size _
 have HM5 := HM4.out.alloc (.cells ⟨seaC nm st A n c kb ks N (nodupB (leadL st l)) b 0 (.slice none 0 0) (.slice none 0 0) false⟩ 136)
 refine wpAnyH_ready (rs := [9]) (by kernel_rfl) (by simp) ?_
 refine AllReadyH.cons (o := _) rfl (fun K hK => ?_) AllReadyH.nil
 go_simp
 refine hK.out _ _ (CA.out _ C5) (fun hHeld => ?_)
 clear hK K
 (try simp only [Act.put, List.setIfInBounds_toArray, List.set_cons_zero, List.set_cons_succ])
 refine takeH 10 6 (v := ?_) rfl (by kernel_rfl) (by kernel_rfl) (by kernel_rfl) (fun _ _ _ h => h) (Or.inl ⟨by rfl, ?_⟩) (by assumption) ?_
 rotate_left
 ·(intro w hSw; (try dsimp only at hSw); go_simp) <;> with_reducible rfl
 (try simp only [Act.put, List.setIfInBounds_toArray, List.set_cons_zero, List.set_cons_succ])
 refine wpAnyH_done (by kernel_rfl) ?_ _
 (try simp only [Act.put, List.setIfInBounds_toArray, List.set_cons_zero, List.set_cons_succ])
 have hs0 := b0.size
 have hs3 := C3.size
 go_wp2
 go_ret
 exact ⟨_, b, rfl, KB, HM5, by omega, hlt4, below_go b0 C5⟩
end Go.Proofs.YtidolgonmimicaaGreat
namespace Go.Proofs.YtidolgonmimicaaGreat
open Go.ChangeShapes Go.WideShapes Go.ChangeAt Go.RowKit Go.Deep
open Go.Maps (Keyed string_keyed)
def CutR (cu : Option Cut3) (w : World) (e : Ending) (w' : World) : Prop := ∃ (s : ByteArray) (x y : Int), e = .returned (.tuple #[.agg #[.string s, .int .i64 x, .int .i64 y], .bool cu.isSome]) ∧ (∀ z, cu = some z → z = (s, x, y)) ∧ Below w.heap.size w w'
theorem CutR.mk {cu : Option Cut3} {w w' : World} {e : Ending} (s : ByteArray) (x y : Int) (b : Bool) (he : e = .returned (.tuple #[.agg #[.string s, .int .i64 x, .int .i64 y], .bool b])) (hb : cu = if b = true then some (s, x, y) else none) (h2 : Below w.heap.size w w') : CutR cu w e w' := by
 refine ⟨s, x, y, ?_, ?_, h2⟩
 ·rw [he, hb]; cases b <;> rfl
 ·intro z hz
  rw [hb] at hz
  cases b
  ·simp at hz
  ·simp at hz; exact hz.symm
theorem size_zero {p : ByteArray} (h : p.size = 0) : p = ⟨#[]⟩ := by
 apply ByteArray.ext
 exact Array.eq_empty_of_size_eq_zero h
theorem ne_empty {p : ByteArray} (h : ¬ p.size = 0) : (p.toList == ([] : List UInt8)) = false := by
 rw [beq_eq_false_iff_ne]
 intro e
 have := congrArg List.length e
 rw [ByteArray.toList_eq] at this
 simp at this
 exact h (by rw [this]; rfl)
abbrev cut0 : List Value := [.string ⟨#[]⟩, .int .i64 0, .int .i64 0]
set_option maxHeartbeats 4000000 in
set_option maxRecDepth 100000 in
theorem impl_cutOf {A : Option Addr} {n c st : Nat} {nm : ByteArray} {l : List ByteArray} {kb ks : ByteArray} {N B b : Nat} {lf : Int} {tv cv : Value} {ok : Bool} {p : ByteArray} {w : World} (hn : l.length = n) (h : Strs w A l) (hk : goodK nm (st : Int) l kb ks = true) (hK : Blk w B 136 (seaC nm st A n c kb ks N (nodupB (leadL st l)) b lf tv cv ok)) (hm : SetX Tryz.prog w 9 4 b (falL (leadL st l))) (hp : preT p) (hN : N ≤ 1000) :
  Calls Tryz.prog 168 #[.pointer (some ⟨B, 0, none⟩), .string p] w fun e w' => CutR (cutF st l kb ks N p) w e w' := by
 have h38 := (goodK_all hk).1
 have hp60 := hp.1
 have KSS := string_keyed (P := Tryz.prog) (k := 9) Tryz.underlying9
 have KB := hK.alloc (.cells #[.string ⟨#[]⟩, .int .i64 0, .int .i64 0] 29)
 have KD := Blk.at_ w 29 cut0 (b := w.heap.size) rfl
 have b0 : Below w.heap.size w (w.alloc (.cells #[.string ⟨#[]⟩, .int .i64 0, .int .i64 0] 29)) := by (repeat' (first | (with_reducible exact Below.refl _ _) | (with_reducible assumption) | (with_reducible refine below_drewN ?_ _) | (with_reducible refine Below.drew ?_) | (with_reducible refine below_alloc ?_ _) | (with_reducible refine Below.alloc ?_ ?_ _) | (with_reducible refine Below.setCell ?_ ?_ _) | (with_reducible refine below_go ?_ (by with_reducible assumption)) | (with_reducible refine below_then (by with_reducible assumption) ?_ ?_) | go_size))
 have HM := Lib.hid (hm.alloc (.cells #[.string ⟨#[]⟩, .int .i64 0, .int .i64 0] 29))
 have hBw := hK.lt
 go_in
 go_upto_region 1 with fail
 obtain ⟨w0, hw0⟩ : ∃ u, u = (w.alloc (.cells #[.string ⟨#[]⟩, .int .i64 0, .int .i64 0] 29)) := ⟨_, rfl⟩
 rw [← hw0] at b0 KB KD HM ⊢
 clear hw0
 obtain ⟨D, hD⟩ : ∃ u, u = w.heap.size := ⟨_, rfl⟩
 have hDB : ¬ D = B := by omega
 have hBD : ¬ B = D := by omega
 have HS := Lib.hid (h.up b0)
 rw [← hD] at KD ⊢
 have HD := Lib.hid hD
 clear hD
 have CA : Hid (∀ u : World, Below w0.heap.size w0 u → (u.cell? ⟨B, 0, none⟩ = some (.string nm) ∧ u.cell? ⟨B, 1, none⟩ = some (.int .i64 st) ∧ u.cell? ⟨B, 2, none⟩ = some (.slice A n c)) ∧ u.cell? ⟨B, 3, none⟩ = some (.string kb) ∧ u.cell? ⟨B, 4, none⟩ = some (.string ks)) := Lib.hid (fun u hu => by
  have L0 := KB.up hu
  exact ⟨⟨by simpa [seaC] using L0.cell 0, by simpa [seaC] using L0.cell 1, by simpa [seaC] using L0.cell 2⟩, by simpa [seaC] using L0.cell 3, by simpa [seaC] using L0.cell 4⟩)
 clear h hK hm
 have C0 : Below w0.heap.size w0 w0.drew := (Below.refl _ _).drew
 refine wp_region_held_drew (S := fun u => (u.cell? ⟨B, 0, none⟩ = some (.string nm) ∧ u.cell? ⟨B, 1, none⟩ = some (.int .i64 st) ∧ u.cell? ⟨B, 2, none⟩ = some (.slice A n c)) ∧ u.cell? ⟨B, 3, none⟩ = some (.string kb) ∧ u.cell? ⟨B, 4, none⟩ = some (.string ks)) (by kernel_rfl) (CA.out _ C0) (fun hHeld => ?_)
 refine takeH 0 10 (v := ?_) rfl (by kernel_rfl) (by kernel_rfl) (by kernel_rfl) (fun _ _ _ h => h) (Or.inl ⟨by rfl, ?_⟩) (by assumption) ?_
 rotate_left
 ·(intro w hSw; (try dsimp only at hSw); go_simp) <;> with_reducible rfl
 (try simp only [Act.put, List.setIfInBounds_toArray, List.set_cons_zero, List.set_cons_succ])
 refine takeH 1 11 (v := ?_) rfl (by kernel_rfl) (by kernel_rfl) (by kernel_rfl) (fun _ _ _ h => h) (Or.inl ⟨by rfl, ?_⟩) (by assumption) ?_
 rotate_left
 ·(intro w hSw; (try dsimp only at hSw); go_simp) <;> with_reducible rfl
 (try simp only [Act.put, List.setIfInBounds_toArray, List.set_cons_zero, List.set_cons_succ])
 refine takeH 2 12 (v := ?_) rfl (by kernel_rfl) (by kernel_rfl) (by kernel_rfl) (fun _ _ _ h => h) (Or.inl ⟨by rfl, ?_⟩) (by assumption) ?_
 rotate_left
 ·(intro w hSw; (try dsimp only at hSw); go_simp) <;> with_reducible rfl
 (try simp only [Act.put, List.setIfInBounds_toArray, List.set_cons_zero, List.set_cons_succ])
 refine takeH 3 13 (v := ?_) rfl (by kernel_rfl) (by kernel_rfl) (by kernel_rfl) (fun _ _ _ h => h) (Or.inl ⟨by rfl, ?_⟩) (by assumption) ?_
 rotate_left
 ·(intro w hSw; (try dsimp only at hSw); go_simp) <;> with_reducible rfl
 (try simp only [Act.put, List.setIfInBounds_toArray, List.set_cons_zero, List.set_cons_succ])
 refine takeH 4 14 (v := ?_) rfl (by kernel_rfl) (by kernel_rfl) (by kernel_rfl) (fun _ _ _ h => h) (Or.inl ⟨by rfl, ?_⟩) (by assumption) ?_
 rotate_left
 ·(intro w hSw; (try dsimp only at hSw); go_simp) <;> with_reducible rfl
 (try simp only [Act.put, List.setIfInBounds_toArray, List.set_cons_zero, List.set_cons_succ])
 refine takeH 5 15 (v := ?_) rfl (by kernel_rfl) (by kernel_rfl) (by kernel_rfl) (fun _ _ _ h => h) (Or.inl ⟨by rfl, ?_⟩) (by assumption) ?_
 rotate_left
 ·(intro w hSw; (try dsimp only at hSw); go_simp) <;> with_reducible rfl
 (try simp only [Act.put, List.setIfInBounds_toArray, List.set_cons_zero, List.set_cons_succ])
 refine takeH 6 16 (v := ?_) rfl (by kernel_rfl) (by kernel_rfl) (by kernel_rfl) (fun _ _ _ h => h) (Or.inl ⟨by rfl, ?_⟩) (by assumption) ?_
 rotate_left
 ·(intro w hSw; (try dsimp only at hSw); go_simp) <;> with_reducible rfl
 (try simp only [Act.put, List.setIfInBounds_toArray, List.set_cons_zero, List.set_cons_succ])
 refine takeH 7 17 (v := ?_) rfl (by kernel_rfl) (by kernel_rfl) (by kernel_rfl) (fun _ _ _ h => h) (Or.inl ⟨by rfl, ?_⟩) (by assumption) ?_
 rotate_left
 ·(intro w hSw; (try dsimp only at hSw); go_simp) <;> with_reducible rfl
 (try simp only [Act.put, List.setIfInBounds_toArray, List.set_cons_zero, List.set_cons_succ])
 refine takeH 8 18 (v := ?_) rfl (by kernel_rfl) (by kernel_rfl) (by kernel_rfl) (fun _ _ _ h => h) (Or.inl ⟨by rfl, ?_⟩) (by assumption) ?_
 rotate_left
 ·(intro w hSw; (try dsimp only at hSw); go_simp) <;> with_reducible rfl
 (try simp only [Act.put, List.setIfInBounds_toArray, List.set_cons_zero, List.set_cons_succ])
 refine wpAnyH_ready (rs := [9]) (by kernel_rfl) (by simp) ?_
 refine AllReadyH.cons (o := _) rfl (fun K hK => ?_) AllReadyH.nil
 go_simp
 refine (impl_headsP (nm := nm) (t := p) hn (HS.out.up C0) hk hp).mono ?_; rintro e w1 ⟨A1, c1, rfl, ho1, hb1⟩
 have C1 := below_go C0 hb1
 have HO := Lib.hid ho1
 clear ho1
 try go_wp2_with fail
 refine hK.out _ _ (CA.out _ C1) (fun hHeld => ?_)
 clear hK K
 (try simp only [Act.put, List.setIfInBounds_toArray, List.set_cons_zero, List.set_cons_succ])
 refine takeH 10 6 (v := ?_) rfl (by kernel_rfl) (by kernel_rfl) (by kernel_rfl) (fun _ _ _ h => h) (Or.inl ⟨by rfl, ?_⟩) (by assumption) ?_
 rotate_left
 ·(intro w hSw; (try dsimp only at hSw); go_simp) <;> with_reducible rfl
 (try simp only [Act.put, List.setIfInBounds_toArray, List.set_cons_zero, List.set_cons_succ])
 refine wpAnyH_done (by kernel_rfl) ?_ _
 (try simp only [Act.put, List.setIfInBounds_toArray, List.set_cons_zero, List.set_cons_succ])
 have hcap1 := HO.out.cap
 obtain ⟨g, rfl, g0, g1, gc, _⟩ := HO.out.at_ (by omega)
 have HGC := Lib.hid (fun (j : Nat) (hj : j < p.size + 1) (u : World) (hu : Below w1.heap.size w1 u) => show u.cell? ⟨g, j, none⟩ = some (.string (hdAt st l kb ks p j)) from by
  have cg := gc j _ 0 _ (hdsL_at hj) rfl
  simp only [Nat.mul_one, Nat.add_zero] at cg
  exact (hu.cell (p := ⟨g, j, none⟩) g1).trans cg)
 have cg := HGC.out p.size (by omega) w1 (Below.refl _ _)
 have HRN := Lib.hid (fun j => hdAt_good h38.1 h38.2 l kb ks p j)
 have K1 := KB.up C1
 have D1 := KD.up C1
 have HM1 := Lib.hid (HM.out.up C1)
 have B1 := below_go b0 C1
 have hcL : (p.size : Int) < (p.size : Int) + 1 := by omega
 have hcM : (p.size : Int) ≤ (p.size : Int) + 1 := by omega
 have hcN : (p.size : Int) ≤ (c1 : Int) := by omega
 have s1 := B1.size
 clear KB KD HM CA C0 C1 hb1 gc
 have kb1 := K1.cell 1; have kb5 := K1.cell 5; have kb6 := K1.cell 6
 simp only [seaC, List.getElem?_cons_zero, List.getElem?_cons_succ] at kb1 kb5 kb6
 have d0 := D1.cell 0; have d1 := D1.cell 1; have d2 := D1.cell 2
 simp only [List.getElem?_cons_zero, List.getElem?_cons_succ] at d0 d1 d2
 have f0 := D1.frozen 0; have f1 := D1.frozen 1; have f2 := D1.frozen 2
 have hDlt := D1.lt
 have fin : Hid (∀ (u : World) (x0 x1 x2 : Value), Below w.heap.size w u → D < u.heap.size → Below w.heap.size w (((u.setCell ⟨D, 0, none⟩ x0).setCell ⟨D, 1, none⟩ x1).setCell ⟨D, 2, none⟩ x2)) := Lib.hid (fun u x0 x1 x2 hu hDu => by
  rw [← HD.out] at hu ⊢
  exact ((hu.setCell (p := ⟨D, 0, none⟩) (by simp) _).setCell (p := ⟨D, 1, none⟩) (by simp) _).setCell (p := ⟨D, 2, none⟩) (by simp) _)
 have CL := Lib.hid (@cut_lead st N l kb ks p)
 have CLF := Lib.hid (@cut_lead' st N l kb ks p)
 have CO := Lib.hid (@cut_open st N l kb ks p)
 have COF := Lib.hid (@cut_open' st N l kb ks p)
 have CC := Lib.hid (@cut_clash st N l kb ks p)
 have CF := Lib.hid (@cut_free st N l kb ks p)
 by_cases hz : p.size = 0
 ·have hpe := Lib.hid (size_zero hz)
  have hbe : (p.toList == ([] : List UInt8)) = true := by rw [hpe.out, ByteArray.toList_eq]; rfl
  rcases hl : nodupB (leadL st l)
  ·have e2 := Lib.hid ((CLF.out hz hl).trans (show some (p, (1 : Int), (0 : Int)) = some (⟨#[]⟩, 1, 0) by rw [hpe.out]))
   rw [hl] at kb6
   clear hl hz
   go_upto_region 4 with fail
   have V := ((D1.set_ 0 (.string ⟨#[]⟩)).set_ 1 (.int .i64 1)).set_ 2 (.int .i64 0)
   have v0 := V.cell 0; have v1 := V.cell 1; have v2 := V.cell 2
   simp only [List.set_cons_zero, List.set_cons_succ, List.getElem?_cons_zero, List.getElem?_cons_succ] at v0 v1 v2
   clear V
   go_region
   go_wp2_with fail
   refine bodyPost_ret (v := .tuple #[.agg #[.string ⟨#[]⟩, .int .i64 1, .int .i64 0], .bool true]) (by simp [results, Tryz.results168, go_sem, v0, v1, v2]) rfl ?_
   exact CutR.mk _ _ _ true rfl e2.out (by with_reducible (first | exact fin.out _ _ _ _ (by assumption) hDlt | exact below_drewN (fin.out _ _ _ _ (by assumption) hDlt) _ | exact (fin.out _ _ _ _ (by assumption) hDlt).drew))
  ·have e2 := Lib.hid (CL.out hz hl)
   rw [hl] at kb6
   clear hl hz
   go_upto_region 4 with fail
   have V := ((D1.set_ 0 (.string ⟨#[]⟩)).set_ 1 (.int .i64 1)).set_ 2 (.int .i64 0)
   have v0 := V.cell 0; have v1 := V.cell 1; have v2 := V.cell 2
   simp only [List.set_cons_zero, List.set_cons_succ, List.getElem?_cons_zero, List.getElem?_cons_succ] at v0 v1 v2
   clear V
   go_region
   go_wp2_with fail
   refine bodyPost_ret (v := .tuple #[.agg #[.string ⟨#[]⟩, .int .i64 1, .int .i64 0], .bool false]) (by simp [results, Tryz.results168, go_sem, v0, v1, v2]) rfl ?_
   exact CutR.mk _ _ _ false rfl e2.out (by with_reducible (first | exact fin.out _ _ _ _ (by assumption) hDlt | exact below_drewN (fin.out _ _ _ _ (by assumption) hDlt) _ | exact (fin.out _ _ _ _ (by assumption) hDlt).drew))
 ·have hne := ne_empty hz
  by_cases hpn : p.size = N
  ·have hI : ((p.size : Int) == (N : Int)) = true := by rw [hpn]; simp
   by_cases he : hdAt st l kb ks p p.size = roundsS st
   ·have e2 := Lib.hid (CO.out hz hpn he)
    have hbe : ((hdAt st l kb ks p p.size).toList == (roundsS st).toList) = true := by rw [he]; simp
    clear he hpn hz
    have V := ((D1.set_ 0 (.string p)).set_ 1 (.int .i64 3)).set_ 2 (.int .i64 0)
    have v0 := V.cell 0; have v1 := V.cell 1; have v2 := V.cell 2
    simp only [List.set_cons_zero, List.set_cons_succ, List.getElem?_cons_zero, List.getElem?_cons_succ] at v0 v1 v2
    clear V
    go_wp2_with (go_at_call 105; refine (impl_rounds h38.2).mono ?_; rintro e w' ⟨rfl, rfl⟩)
    refine bodyPost_ret (v := .tuple #[.agg #[.string p, .int .i64 3, .int .i64 0], .bool false]) (by simp [results, Tryz.results168, go_sem, v0, v1, v2]) rfl ?_
    exact CutR.mk _ _ _ false rfl e2.out (by with_reducible (first | exact fin.out _ _ _ _ (by assumption) hDlt | exact below_drewN (fin.out _ _ _ _ (by assumption) hDlt) _ | exact (fin.out _ _ _ _ (by assumption) hDlt).drew))
   ·have e2 := Lib.hid (COF.out hz hpn he)
    have hbe := bytes_ne he
    clear he hpn hz
    have V := ((D1.set_ 0 (.string p)).set_ 1 (.int .i64 3)).set_ 2 (.int .i64 0)
    have v0 := V.cell 0; have v1 := V.cell 1; have v2 := V.cell 2
    simp only [List.set_cons_zero, List.set_cons_succ, List.getElem?_cons_zero, List.getElem?_cons_succ] at v0 v1 v2
    clear V
    go_wp2_with (go_at_call 105; refine (impl_rounds h38.2).mono ?_; rintro e w' ⟨rfl, rfl⟩)
    refine bodyPost_ret (v := .tuple #[.agg #[.string p, .int .i64 3, .int .i64 0], .bool true]) (by simp [results, Tryz.results168, go_sem, v0, v1, v2]) rfl ?_
    exact CutR.mk _ _ _ true rfl e2.out (by with_reducible (first | exact fin.out _ _ _ _ (by assumption) hDlt | exact below_drewN (fin.out _ _ _ _ (by assumption) hDlt) _ | exact (fin.out _ _ _ _ (by assumption) hDlt).drew))
  ·have hI : ((p.size : Int) == (N : Int)) = false := by rw [beq_eq_false_iff_ne]; omega
   have HZ := Lib.hid hz
   have HPN := Lib.hid hpn
   have HCL : Hid (∀ i, clsAt st l kb ks p p.size i = inL (falL (leadL st l)) (timesS (turnS (hdAt st l kb ks p i)) (hdAt st l kb ks p p.size))) := Lib.hid (fun i => rfl)
   have HB1 := Lib.hid B1
   have HK1 := Lib.hid K1
   have HD1 := Lib.hid D1
   clear hz hpn B1 K1 D1 d0 d1 d2 f0 f1 f2
   go_wp2
   clear kb1 kb5 kb6
   go_loopw [57] (fun v wr => ∃ k : Nat, k ≤ p.size ∧ v = .int .i64 k ∧ Hid (∀ j, j < k → clsAt st l kb ks p p.size j = false) ∧ Hid (Below w1.heap.size w1 wr)) (fun v _ => p.size - (intOf v).toNat)
   case atStart => exact ⟨0, Nat.zero_le _, rfl, Lib.hid (fun j hj => absurd hj (by omega)), Lib.hid (Below.refl _ _)⟩
   case round =>
    obtain ⟨k, hk1, rfl, HLO, HBR⟩ := hrel
    rename World => wr
    have K1 := HK1.out.up HBR.out
    have D1 := HD1.out.up HBR.out
    have B1 := below_go HB1.out HBR.out
    have hDlt := D1.lt
    have d0 := D1.cell 0; have d1 := D1.cell 1; have d2 := D1.cell 2
    simp only [List.getElem?_cons_zero, List.getElem?_cons_succ] at d0 d1 d2
    have f0 := D1.frozen 0; have f1 := D1.frozen 1; have f2 := D1.frozen 2
    by_cases hlt : k < p.size
    ·have hI2 : (k : Int) < (p.size : Int) := by omega
     have cgk := HGC.out k (by omega) wr HBR.out
     have hRk := HRN.out k
     have hRp := HRN.out p.size
     go_upto_region 10 with fail
     have C0 : Below wr.heap.size wr wr.drew := (Below.refl _ _).drew
     have CA : Hid (∀ u : World, Below wr.heap.size wr u → u.cell? ⟨B, 7, none⟩ = some (.map (some b))) := Lib.hid (fun u hu => by
      have L0 := K1.up hu
      simpa [seaC] using L0.cell 7)
     have hhz : (hdAt st l kb ks p k).size ≤ 16777216 := by rw [hRk.2]; omega
     have hpz : (hdAt st l kb ks p p.size).size ≤ 16777216 := by rw [hRp.2]; omega
     refine wp_region_held_drew (S := fun u => u.cell? ⟨B, 7, none⟩ = some (.map (some b))) (by kernel_rfl) (CA.out _ C0) (fun hHeld => ?_)
     refine takeH 0 62 (v := ?_) rfl (by kernel_rfl) (by kernel_rfl) (by kernel_rfl) (fun _ _ _ h => h) (Or.inl ⟨by rfl, ?_⟩) (by assumption) ?_
     rotate_left
     ·(intro w hSw; (try dsimp only at hSw); go_simp) <;> with_reducible rfl
     (try simp only [Act.put, List.setIfInBounds_toArray, List.set_cons_zero, List.set_cons_succ])
     refine takeH 1 63 (v := ?_) rfl (by kernel_rfl) (by kernel_rfl) (by kernel_rfl) (fun _ _ _ h => h) (Or.inl ⟨by rfl, ?_⟩) (by assumption) ?_
     rotate_left
     ·(intro w hSw; (try dsimp only at hSw); go_simp) <;> with_reducible rfl
     (try simp only [Act.put, List.setIfInBounds_toArray, List.set_cons_zero, List.set_cons_succ])
     refine takeH 2 64 (v := ?_) rfl (by kernel_rfl) (by kernel_rfl) (by kernel_rfl) (fun _ _ _ h => h) (Or.inl ⟨by rfl, ?_⟩) (by assumption) ?_
     rotate_left
     ·(intro w hSw; (try dsimp only at hSw); go_simp) <;> with_reducible rfl
     (try simp only [Act.put, List.setIfInBounds_toArray, List.set_cons_zero, List.set_cons_succ])
     refine takeH 3 65 (v := ?_) rfl (by kernel_rfl) (by kernel_rfl) (by kernel_rfl) (fun _ _ _ h => h) (Or.inl ⟨by rfl, ?_⟩) (by assumption) ?_
     rotate_left
     ·(intro w hSw; (try dsimp only at hSw); go_simp) <;> with_reducible rfl
     (try simp only [Act.put, List.setIfInBounds_toArray, List.set_cons_zero, List.set_cons_succ])
     refine takeH 4 66 (v := ?_) rfl (by kernel_rfl) (by kernel_rfl) (by kernel_rfl) (fun _ _ _ h => h) (Or.inl ⟨by rfl, ?_⟩) (by assumption) ?_
     rotate_left
     ·(intro w hSw; (try dsimp only at hSw); go_simp) <;> with_reducible rfl
     (try simp only [Act.put, List.setIfInBounds_toArray, List.set_cons_zero, List.set_cons_succ])
     refine takeH 6 68 (v := ?_) rfl (by kernel_rfl) (by kernel_rfl) (by kernel_rfl) (fun _ _ _ h => h) (Or.inl ⟨by rfl, ?_⟩) (by assumption) ?_
     rotate_left
     ·(intro w hSw; (try dsimp only at hSw); go_simp) <;> with_reducible rfl
     (try simp only [Act.put, List.setIfInBounds_toArray, List.set_cons_zero, List.set_cons_succ])
     refine wpAnyH_ready (rs := [5]) (by kernel_rfl) (by simp) ?_
     refine AllReadyH.cons (o := _) rfl (fun K hK => ?_) AllReadyH.nil
     go_simp
     refine (impl_turned hRk.1).mono ?_; rintro e w3 ⟨rfl, hb3, hrt⟩
     have C1 := below_go C0 hb3
     rw [hRk.2] at hrt
     have hft := rowN_fits hrt hRp
     have htz : (turnS (hdAt st l kb ks p k)).size ≤ 16777216 := by rw [hrt.2]; omega
     try go_wp2_with fail
     refine hK.out _ _ (CA.out _ C1) (fun hHeld => ?_)
     clear hK K
     (try simp only [Act.put, List.setIfInBounds_toArray, List.set_cons_zero, List.set_cons_succ])
     refine wpAnyH_ready (rs := [7]) (by kernel_rfl) (by simp) ?_
     refine AllReadyH.cons (o := _) rfl (fun K hK => ?_) AllReadyH.nil
     go_simp
     refine (impl_times htz hpz hft).mono ?_; rintro e w4 ⟨rfl, hb4⟩
     have C2 := below_go C1 hb4
     try go_wp2_with fail
     refine hK.out _ _ (CA.out _ C2) (fun hHeld => ?_)
     clear hK K
     (try simp only [Act.put, List.setIfInBounds_toArray, List.set_cons_zero, List.set_cons_succ])
     have hyz : (timesS (turnS (hdAt st l kb ks p k)) (hdAt st l kb ks p p.size)).size ≤ 16777216 := by rw [(hrt.times hRp).2]; omega
     have lk := (HM1.out.up (HBR.out.trans (C2.mono HBR.out.size))).look (t := 110) KSS Tryz.underlying110 Tryz.underlying9 Tryz.underlying4 (by kernel_rfl) hyz
     obtain ⟨q, hq⟩ : ∃ u, u = inL (falL (leadL st l)) (timesS (turnS (hdAt st l kb ks p k)) (hdAt st l kb ks p p.size)) := ⟨_, rfl⟩
     rw [← hq] at lk
     have HQ := Lib.hid hq
     clear hq
     refine wpAnyH_ready (rs := [8]) (by kernel_rfl) (by simp) ?_
     refine AllReadyH.cons (o := _) rfl (fun K hK => ?_) AllReadyH.nil
     go_simp
     refine hK.out _ _ (CA.out _ C2) (fun hHeld => ?_)
     clear hK K lk
     (try simp only [Act.put, List.setIfInBounds_toArray, List.set_cons_zero, List.set_cons_succ])
     refine wpAnyH_done (by kernel_rfl) ?_ _
     (try simp only [Act.put, List.setIfInBounds_toArray, List.set_cons_zero, List.set_cons_succ])
     have B2 := below_go B1 C2
     rcases q
     ·have HL2 := Lib.hid (show ∀ j, j < k + 1 → clsAt st l kb ks p p.size j = false from fun j hj => by
       rcases Nat.lt_or_ge j k with z | z
       ·exact HLO.out j z
       ·obtain rfl : j = k := by omega
        rw [HCL.out, ← HQ.out])
      have HB2 := Lib.hid (HBR.out.trans (C2.mono HBR.out.size))
      go_wp2
      go_roundw
      case rel => exact ⟨k + 1, by omega, by go_num, HL2, HB2⟩
      case measure => simp [intOf]; omega
     ·have e2 := Lib.hid (show cutF st l kb ks N p = some (p, 2, (k : Int)) from CC.out HZ.out HPN.out hlt HLO.out (by rw [HCL.out, ← HQ.out]))
      have D1 := D1.up C2
      have hDlt := D1.lt
      have d0 := D1.cell 0; have d1 := D1.cell 1; have d2 := D1.cell 2
      simp only [List.getElem?_cons_zero, List.getElem?_cons_succ] at d0 d1 d2
      have f0 := D1.frozen 0; have f1 := D1.frozen 1; have f2 := D1.frozen 2
      have V := ((D1.set_ 0 (.string p)).set_ 1 (.int .i64 2)).set_ 2 (.int .i64 (k : Int))
      have v0 := V.cell 0; have v1 := V.cell 1; have v2 := V.cell 2
      simp only [List.set_cons_zero, List.set_cons_succ, List.getElem?_cons_zero, List.getElem?_cons_succ] at v0 v1 v2
      clear V
      go_wp2_with fail
      refine bodyPost_ret (v := .tuple #[.agg #[.string p, .int .i64 2, .int .i64 (k : Int)], .bool true]) (by simp [results, Tryz.results168, go_sem, v0, v1, v2]) rfl ?_
      exact CutR.mk _ _ _ true rfl e2.out (by with_reducible (first | exact fin.out _ _ _ _ (by assumption) hDlt | exact below_drewN (fin.out _ _ _ _ (by assumption) hDlt) _ | exact (fin.out _ _ _ _ (by assumption) hDlt).drew))
    ·obtain rfl : k = p.size := by omega
     have hI2 : ¬ (p.size : Int) < (p.size : Int) := by omega
     have e2 := Lib.hid (CF.out HZ.out HPN.out HLO.out)
     have V := ((D1.set_ 0 (.string ⟨#[]⟩)).set_ 1 (.int .i64 0)).set_ 2 (.int .i64 0)
     have v0 := V.cell 0; have v1 := V.cell 1; have v2 := V.cell 2
     simp only [List.set_cons_zero, List.set_cons_succ, List.getElem?_cons_zero, List.getElem?_cons_succ] at v0 v1 v2
     clear V
     go_wp2_with fail
     refine bodyPost_ret (v := .tuple #[.agg #[.string ⟨#[]⟩, .int .i64 0, .int .i64 0], .bool false]) (by simp [results, Tryz.results168, go_sem, v0, v1, v2]) rfl ?_
     exact CutR.mk _ _ _ false rfl e2.out (by with_reducible (first | exact fin.out _ _ _ _ (by assumption) hDlt | exact below_drewN (fin.out _ _ _ _ (by assumption) hDlt) _ | exact (fin.out _ _ _ _ (by assumption) hDlt).drew))
end Go.Proofs.YtidolgonmimicaaGreat
namespace Go.Proofs.YtidolgonmimicaaGreat
open Go.ChangeShapes Go.WideShapes Go.ChangeAt Go.RowKit Go.Deep
open Go.Maps (Keyed string_keyed)
def pfxB (N : Nat) (p : ByteArray) : Bool := decide (p.size ≤ N) && (List.range p.size).all (callB p)
def jusB (cut : ByteArray → Option Cut3) (N : Nat) (c : Cut3) : Bool := pfxB N c.1 && decide (cut c.1 = some c)
theorem jus_f {cut : ByteArray → Option Cut3} {N : Nat} {c : Cut3} (h : pfxB N c.1 = false) : jusB cut N c = false := by rw [jusB, h]; rfl
theorem jus_none {cut : ByteArray → Option Cut3} {N : Nat} {c : Cut3} (h : cut c.1 = none) : jusB cut N c = false := by rw [jusB, h]; simp
theorem jus_some {cut : ByteArray → Option Cut3} {N : Nat} {s t : ByteArray} {x y a b : Int} (h : pfxB N s = true) (g : cut s = some (t, a, b)) (e : t = s) : jusB cut N (s, x, y) = ((x == a) && (y == b)) := by
 subst e
 rw [jusB, h, g, Bool.true_and, Bool.eq_iff_iff, decide_eq_true_iff, Bool.and_eq_true, beq_iff_eq, beq_iff_eq]
 constructor
 ·intro q; injection q with q; injection q with _ q; injection q with q1 q2; exact ⟨q1.symm, q2.symm⟩
 ·rintro ⟨rfl, rfl⟩; rfl
theorem pfx_pre {N : Nat} {p : ByteArray} (h : pfxB N p = true) (hN : N ≤ 60) : preT p ∧ p.size ≤ N := by
 rw [pfxB, Bool.and_eq_true, decide_eq_true_iff, List.all_eq_true] at h
 exact ⟨⟨by omega, fun k hk => h.2 k (List.mem_range.2 hk)⟩, h.1⟩
set_option maxHeartbeats 4000000 in
set_option maxRecDepth 100000 in
theorem impl_justified {A : Option Addr} {n c st : Nat} {nm : ByteArray} {l : List ByteArray} {kb ks : ByteArray} {N B b : Nat} {lf : Int} {tv cv : Value} {ok : Bool} {s : ByteArray} {x y : Int} {w : World} (hn : l.length = n) (h : Strs w A l) (hk : goodK nm (st : Int) l kb ks = true) (hK : Blk w B 136 (seaC nm st A n c kb ks N (nodupB (leadL st l)) b lf tv cv ok)) (hm : SetX Tryz.prog w 9 4 b (falL (leadL st l))) (hs : s.size ≤ 16777216) (hN : N ≤ 60) :
  Calls Tryz.prog 76 #[.pointer (some ⟨B, 0, none⟩), .agg #[.string s, .int .i64 x, .int .i64 y]] w fun e w' => e = .returned (.bool (jusB (cutF st l kb ks N) N (s, x, y))) ∧ Below w.heap.size w w' := by
 have KB := hK.alloc (.cells #[.string s, .int .i64 x, .int .i64 y] 29)
 have KD := Blk.at_ w 29 [.string s, .int .i64 x, .int .i64 y] (b := w.heap.size) rfl
 have b0 : Below w.heap.size w (w.alloc (.cells #[.string s, .int .i64 x, .int .i64 y] 29)) := by (repeat' (first | (with_reducible exact Below.refl _ _) | (with_reducible assumption) | (with_reducible refine below_drewN ?_ _) | (with_reducible refine Below.drew ?_) | (with_reducible refine below_alloc ?_ _) | (with_reducible refine Below.alloc ?_ ?_ _) | (with_reducible refine Below.setCell ?_ ?_ _) | (with_reducible refine below_go ?_ (by with_reducible assumption)) | (with_reducible refine below_then (by with_reducible assumption) ?_ ?_) | go_size))
 have HM := Lib.hid (hm.alloc (.cells #[.string s, .int .i64 x, .int .i64 y] 29))
 have HPF : Hid (pfxB N s = (decide (s.size ≤ N) && (List.range s.size).all (callB s))) := Lib.hid rfl
 have hBw := hK.lt
 go_in
 go_upto_region 1 with fail
 obtain ⟨w0, hw0⟩ : ∃ u, u = (w.alloc (.cells #[.string s, .int .i64 x, .int .i64 y] 29)) := ⟨_, rfl⟩
 rw [← hw0] at b0 KB KD HM ⊢
 clear hw0
 have HS := Lib.hid (h.up b0)
 obtain ⟨D, hD⟩ : ∃ u, u = w.heap.size := ⟨_, rfl⟩
 rw [← hD] at KD ⊢
 have HD := Lib.hid hD
 clear hD
 have CA : Hid (∀ u : World, Below w0.heap.size w0 u → (u.cell? ⟨D, 0, none⟩ = some (.string s) ∧ u.cell? ⟨D, 1, none⟩ = some (.int .i64 x) ∧ u.cell? ⟨D, 2, none⟩ = some (.int .i64 y)) ∧ u.cell? ⟨B, 5, none⟩ = some (.int .i64 (N : Int))) := Lib.hid (fun u hu => by
  have L0 := KD.up hu; have L1 := KB.up hu
  exact ⟨⟨by simpa using L0.cell 0, by simpa using L0.cell 1, by simpa using L0.cell 2⟩, by simpa [seaC] using L1.cell 5⟩)
 clear h hK hm
 have C0 : Below w0.heap.size w0 w0.drew := (Below.refl _ _).drew
 by_cases hle : s.size ≤ N
 ·have hI : ¬ (N : Int) < (s.size : Int) := by omega
  have HLE := Lib.hid hle
  clear hle
  rcases hc : (List.range s.size).all (callB s)
  ·have e2 := Lib.hid (show jusB (cutF st l kb ks N) N (s, x, y) = false from jus_f (show pfxB N s = false by rw [HPF.out, hc, Bool.and_false]))
   have HC := Lib.hid hc
   clear hc
   refine wp_region_held_drew (S := fun u => (u.cell? ⟨D, 0, none⟩ = some (.string s) ∧ u.cell? ⟨D, 1, none⟩ = some (.int .i64 x) ∧ u.cell? ⟨D, 2, none⟩ = some (.int .i64 y)) ∧ u.cell? ⟨B, 5, none⟩ = some (.int .i64 (N : Int))) (by kernel_rfl) (CA.out _ C0) (fun hHeld => ?_)
   refine takeH 0 7 (v := ?_) rfl (by kernel_rfl) (by kernel_rfl) (by kernel_rfl) (fun _ _ _ h => h) (Or.inl ⟨by rfl, ?_⟩) (by assumption) ?_
   rotate_left
   ·(intro w hSw; (try dsimp only at hSw); go_simp) <;> with_reducible rfl
   (try simp only [Act.put, List.setIfInBounds_toArray, List.set_cons_zero, List.set_cons_succ])
   refine takeH 1 8 (v := ?_) rfl (by kernel_rfl) (by kernel_rfl) (by kernel_rfl) (fun _ _ _ h => h) (Or.inl ⟨by rfl, ?_⟩) (by assumption) ?_
   rotate_left
   ·(intro w hSw; (try dsimp only at hSw); go_simp) <;> with_reducible rfl
   (try simp only [Act.put, List.setIfInBounds_toArray, List.set_cons_zero, List.set_cons_succ])
   refine takeH 2 9 (v := ?_) rfl (by kernel_rfl) (by kernel_rfl) (by kernel_rfl) (fun _ _ _ h => h) (Or.inl ⟨by rfl, ?_⟩) (by assumption) ?_
   rotate_left
   ·(intro w hSw; (try dsimp only at hSw); go_simp) <;> with_reducible rfl
   (try simp only [Act.put, List.setIfInBounds_toArray, List.set_cons_zero, List.set_cons_succ])
   refine takeH 3 10 (v := ?_) rfl (by kernel_rfl) (by kernel_rfl) (by kernel_rfl) (fun _ _ _ h => h) (Or.inl ⟨by rfl, ?_⟩) (by assumption) ?_
   rotate_left
   ·(intro w hSw; (try dsimp only at hSw); go_simp) <;> with_reducible rfl
   (try simp only [Act.put, List.setIfInBounds_toArray, List.set_cons_zero, List.set_cons_succ])
   refine takeH 4 11 (v := ?_) rfl (by kernel_rfl) (by kernel_rfl) (by kernel_rfl) (fun _ _ _ h => h) (Or.inl ⟨by rfl, ?_⟩) (by assumption) ?_
   rotate_left
   ·(intro w hSw; (try dsimp only at hSw); go_simp) <;> with_reducible rfl
   (try simp only [Act.put, List.setIfInBounds_toArray, List.set_cons_zero, List.set_cons_succ])
   refine takeH 5 12 (v := ?_) rfl (by kernel_rfl) (by kernel_rfl) (by kernel_rfl) (fun _ _ _ h => h) (Or.inl ⟨by rfl, ?_⟩) (by assumption) ?_
   rotate_left
   ·(intro w hSw; (try dsimp only at hSw); go_simp) <;> with_reducible rfl
   (try simp only [Act.put, List.setIfInBounds_toArray, List.set_cons_zero, List.set_cons_succ])
   refine takeH 6 13 (v := ?_) rfl (by kernel_rfl) (by kernel_rfl) (by kernel_rfl) (fun _ _ _ h => h) (Or.inl ⟨by rfl, ?_⟩) (by assumption) ?_
   rotate_left
   ·(intro w hSw; (try dsimp only at hSw); go_simp) <;> with_reducible rfl
   (try simp only [Act.put, List.setIfInBounds_toArray, List.set_cons_zero, List.set_cons_succ])
   refine takeH 7 14 (v := ?_) rfl (by kernel_rfl) (by kernel_rfl) (by kernel_rfl) (fun _ _ _ h => h) (Or.inl ⟨by rfl, ?_⟩) (by assumption) ?_
   rotate_left
   ·(intro w hSw; (try dsimp only at hSw); go_simp) <;> with_reducible rfl
   (try simp only [Act.put, List.setIfInBounds_toArray, List.set_cons_zero, List.set_cons_succ])
   refine takeH 8 15 (v := ?_) rfl (by kernel_rfl) (by kernel_rfl) (by kernel_rfl) (fun _ _ _ h => h) (Or.inl ⟨by rfl, ?_⟩) (by assumption) ?_
   rotate_left
   ·(intro w hSw; (try dsimp only at hSw); go_simp) <;> with_reducible rfl
   (try simp only [Act.put, List.setIfInBounds_toArray, List.set_cons_zero, List.set_cons_succ])
   refine takeH 9 16 (v := ?_) rfl (by kernel_rfl) (by kernel_rfl) (by kernel_rfl) (fun _ _ _ h => h) (Or.inl ⟨by rfl, ?_⟩) (by assumption) ?_
   rotate_left
   ·(intro w hSw; (try dsimp only at hSw); go_simp) <;> with_reducible rfl
   (try simp only [Act.put, List.setIfInBounds_toArray, List.set_cons_zero, List.set_cons_succ])
   refine takeH 10 17 (v := ?_) rfl (by kernel_rfl) (by kernel_rfl) (by kernel_rfl) (fun _ _ _ h => h) (Or.inl ⟨by rfl, ?_⟩) (by assumption) ?_
   rotate_left
   ·(intro w hSw; (try dsimp only at hSw); go_simp) <;> with_reducible rfl
   (try simp only [Act.put, List.setIfInBounds_toArray, List.set_cons_zero, List.set_cons_succ])
   refine wpAnyH_ready (rs := [11]) (by kernel_rfl) (by simp) ?_
   refine AllReadyH.cons (o := _) rfl (fun K hK => ?_) AllReadyH.nil
   go_simp
   refine (impl_areCalls hs).mono ?_; rw [HC.out]; rintro e w1 ⟨rfl, hw1⟩
   have C1 : Below w0.heap.size w0 w1 := by rw [← hw1]; exact C0
   try go_wp2_with fail
   refine hK.out _ _ (CA.out _ C1) (fun hHeld => ?_)
   clear hK K
   (try simp only [Act.put, List.setIfInBounds_toArray, List.set_cons_zero, List.set_cons_succ])
   refine takeH 12 19 (v := ?_) rfl (by kernel_rfl) (by kernel_rfl) (by kernel_rfl) (fun _ _ _ h => h) (Or.inl ⟨by rfl, ?_⟩) (by assumption) ?_
   rotate_left
   ·(intro w hSw; (try dsimp only at hSw); go_simp) <;> with_reducible rfl
   (try simp only [Act.put, List.setIfInBounds_toArray, List.set_cons_zero, List.set_cons_succ])
   refine takeH 13 20 (v := ?_) rfl (by kernel_rfl) (by kernel_rfl) (by kernel_rfl) (fun _ _ _ h => h) (Or.inl ⟨by rfl, ?_⟩) (by assumption) ?_
   rotate_left
   ·(intro w hSw; (try dsimp only at hSw); go_simp) <;> with_reducible rfl
   (try simp only [Act.put, List.setIfInBounds_toArray, List.set_cons_zero, List.set_cons_succ])
   refine wpAnyH_done (by kernel_rfl) ?_ _
   (try simp only [Act.put, List.setIfInBounds_toArray, List.set_cons_zero, List.set_cons_succ])
   go_wp2
   go_ret
   rw [e2.out]
   exact ⟨rfl, below_go b0 C1⟩
  ·have HP := Lib.hid (show pfxB N s = true by rw [HPF.out, hc, decide_eq_true HLE.out]; rfl)
   have HC := Lib.hid hc
   clear hc
   refine wp_region_held_drew (S := fun u => (u.cell? ⟨D, 0, none⟩ = some (.string s) ∧ u.cell? ⟨D, 1, none⟩ = some (.int .i64 x) ∧ u.cell? ⟨D, 2, none⟩ = some (.int .i64 y)) ∧ u.cell? ⟨B, 5, none⟩ = some (.int .i64 (N : Int))) (by kernel_rfl) (CA.out _ C0) (fun hHeld => ?_)
   refine takeH 0 7 (v := ?_) rfl (by kernel_rfl) (by kernel_rfl) (by kernel_rfl) (fun _ _ _ h => h) (Or.inl ⟨by rfl, ?_⟩) (by assumption) ?_
   rotate_left
   ·(intro w hSw; (try dsimp only at hSw); go_simp) <;> with_reducible rfl
   (try simp only [Act.put, List.setIfInBounds_toArray, List.set_cons_zero, List.set_cons_succ])
   refine takeH 1 8 (v := ?_) rfl (by kernel_rfl) (by kernel_rfl) (by kernel_rfl) (fun _ _ _ h => h) (Or.inl ⟨by rfl, ?_⟩) (by assumption) ?_
   rotate_left
   ·(intro w hSw; (try dsimp only at hSw); go_simp) <;> with_reducible rfl
   (try simp only [Act.put, List.setIfInBounds_toArray, List.set_cons_zero, List.set_cons_succ])
   refine takeH 2 9 (v := ?_) rfl (by kernel_rfl) (by kernel_rfl) (by kernel_rfl) (fun _ _ _ h => h) (Or.inl ⟨by rfl, ?_⟩) (by assumption) ?_
   rotate_left
   ·(intro w hSw; (try dsimp only at hSw); go_simp) <;> with_reducible rfl
   (try simp only [Act.put, List.setIfInBounds_toArray, List.set_cons_zero, List.set_cons_succ])
   refine takeH 3 10 (v := ?_) rfl (by kernel_rfl) (by kernel_rfl) (by kernel_rfl) (fun _ _ _ h => h) (Or.inl ⟨by rfl, ?_⟩) (by assumption) ?_
   rotate_left
   ·(intro w hSw; (try dsimp only at hSw); go_simp) <;> with_reducible rfl
   (try simp only [Act.put, List.setIfInBounds_toArray, List.set_cons_zero, List.set_cons_succ])
   refine takeH 4 11 (v := ?_) rfl (by kernel_rfl) (by kernel_rfl) (by kernel_rfl) (fun _ _ _ h => h) (Or.inl ⟨by rfl, ?_⟩) (by assumption) ?_
   rotate_left
   ·(intro w hSw; (try dsimp only at hSw); go_simp) <;> with_reducible rfl
   (try simp only [Act.put, List.setIfInBounds_toArray, List.set_cons_zero, List.set_cons_succ])
   refine takeH 5 12 (v := ?_) rfl (by kernel_rfl) (by kernel_rfl) (by kernel_rfl) (fun _ _ _ h => h) (Or.inl ⟨by rfl, ?_⟩) (by assumption) ?_
   rotate_left
   ·(intro w hSw; (try dsimp only at hSw); go_simp) <;> with_reducible rfl
   (try simp only [Act.put, List.setIfInBounds_toArray, List.set_cons_zero, List.set_cons_succ])
   refine takeH 6 13 (v := ?_) rfl (by kernel_rfl) (by kernel_rfl) (by kernel_rfl) (fun _ _ _ h => h) (Or.inl ⟨by rfl, ?_⟩) (by assumption) ?_
   rotate_left
   ·(intro w hSw; (try dsimp only at hSw); go_simp) <;> with_reducible rfl
   (try simp only [Act.put, List.setIfInBounds_toArray, List.set_cons_zero, List.set_cons_succ])
   refine takeH 7 14 (v := ?_) rfl (by kernel_rfl) (by kernel_rfl) (by kernel_rfl) (fun _ _ _ h => h) (Or.inl ⟨by rfl, ?_⟩) (by assumption) ?_
   rotate_left
   ·(intro w hSw; (try dsimp only at hSw); go_simp) <;> with_reducible rfl
   (try simp only [Act.put, List.setIfInBounds_toArray, List.set_cons_zero, List.set_cons_succ])
   refine takeH 8 15 (v := ?_) rfl (by kernel_rfl) (by kernel_rfl) (by kernel_rfl) (fun _ _ _ h => h) (Or.inl ⟨by rfl, ?_⟩) (by assumption) ?_
   rotate_left
   ·(intro w hSw; (try dsimp only at hSw); go_simp) <;> with_reducible rfl
   (try simp only [Act.put, List.setIfInBounds_toArray, List.set_cons_zero, List.set_cons_succ])
   refine takeH 9 16 (v := ?_) rfl (by kernel_rfl) (by kernel_rfl) (by kernel_rfl) (fun _ _ _ h => h) (Or.inl ⟨by rfl, ?_⟩) (by assumption) ?_
   rotate_left
   ·(intro w hSw; (try dsimp only at hSw); go_simp) <;> with_reducible rfl
   (try simp only [Act.put, List.setIfInBounds_toArray, List.set_cons_zero, List.set_cons_succ])
   refine takeH 10 17 (v := ?_) rfl (by kernel_rfl) (by kernel_rfl) (by kernel_rfl) (fun _ _ _ h => h) (Or.inl ⟨by rfl, ?_⟩) (by assumption) ?_
   rotate_left
   ·(intro w hSw; (try dsimp only at hSw); go_simp) <;> with_reducible rfl
   (try simp only [Act.put, List.setIfInBounds_toArray, List.set_cons_zero, List.set_cons_succ])
   refine wpAnyH_ready (rs := [11]) (by kernel_rfl) (by simp) ?_
   refine AllReadyH.cons (o := _) rfl (fun K hK => ?_) AllReadyH.nil
   go_simp
   refine (impl_areCalls hs).mono ?_; rw [HC.out]; rintro e w1 ⟨rfl, hw1⟩
   have C1 : Below w0.heap.size w0 w1 := by rw [← hw1]; exact C0
   try go_wp2_with fail
   refine hK.out _ _ (CA.out _ C1) (fun hHeld => ?_)
   clear hK K
   (try simp only [Act.put, List.setIfInBounds_toArray, List.set_cons_zero, List.set_cons_succ])
   refine takeH 12 19 (v := ?_) rfl (by kernel_rfl) (by kernel_rfl) (by kernel_rfl) (fun _ _ _ h => h) (Or.inl ⟨by rfl, ?_⟩) (by assumption) ?_
   rotate_left
   ·(intro w hSw; (try dsimp only at hSw); go_simp) <;> with_reducible rfl
   (try simp only [Act.put, List.setIfInBounds_toArray, List.set_cons_zero, List.set_cons_succ])
   refine takeH 13 20 (v := ?_) rfl (by kernel_rfl) (by kernel_rfl) (by kernel_rfl) (fun _ _ _ h => h) (Or.inl ⟨by rfl, ?_⟩) (by assumption) ?_
   rotate_left
   ·(intro w hSw; (try dsimp only at hSw); go_simp) <;> with_reducible rfl
   (try simp only [Act.put, List.setIfInBounds_toArray, List.set_cons_zero, List.set_cons_succ])
   refine wpAnyH_done (by kernel_rfl) ?_ _
   (try simp only [Act.put, List.setIfInBounds_toArray, List.set_cons_zero, List.set_cons_succ])
   have K1 := KB.up C1
   have D1 := KD.up C1
   have HM1 := Lib.hid (HM.out.up C1)
   have HS1 := Lib.hid (HS.out.up C1)
   have hpp := pfx_pre HP.out hN
   have HJN := Lib.hid (fun hq => @jus_none (cutF st l kb ks N) N (s, x, y) hq)
   have HJS := Lib.hid (fun (t : ByteArray) (a b : Int) hq => @jus_some (cutF st l kb ks N) N s t x y a b HP.out hq (cut_fst s _ hq))
   obtain ⟨cu, hcu⟩ : ∃ u, u = cutF st l kb ks N s := ⟨_, rfl⟩
   have HCU := Lib.hid hcu
   have d0 := D1.cell 0; have d1 := D1.cell 1; have d2 := D1.cell 2
   simp only [List.getElem?_cons_zero, List.getElem?_cons_succ] at d0 d1 d2
   clear hcu
   go_wp2_with fail
   refine (impl_cutOf hn HS1.out hk K1 HM1.out hpp.1 (by omega)).mono ?_; rw [← HCU.out]; intro e w2 hx
   obtain ⟨s2, x2, y2, rfl, hz2, hb2⟩ := hx
   have C2 := below_go C1 hb2
   have D2 := D1.up hb2
   have HZ2 := Lib.hid hz2
   clear hz2 d0 d1 d2 D1
   have d0 := D2.cell 0; have d1 := D2.cell 1; have d2 := D2.cell 2
   simp only [List.getElem?_cons_zero, List.getElem?_cons_succ] at d0 d1 d2
   have hDlt := D2.lt
   have hDne : ¬ D = w2.heap.size := by omega
   have D3 := D2.alloc (.cells #[.string s2, .int .i64 x2, .int .i64 y2] 29)
   have c0 := D3.cell 0; have c1 := D3.cell 1; have c2 := D3.cell 2
   simp only [List.getElem?_cons_zero, List.getElem?_cons_succ] at c0 c1 c2
   have b3 : Below w2.heap.size w2 (w2.alloc (.cells #[.string s2, .int .i64 x2, .int .i64 y2] 29)) := by (repeat' (first | (with_reducible exact Below.refl _ _) | (with_reducible assumption) | (with_reducible refine below_drewN ?_ _) | (with_reducible refine Below.drew ?_) | (with_reducible refine below_alloc ?_ _) | (with_reducible refine Below.alloc ?_ ?_ _) | (with_reducible refine Below.setCell ?_ ?_ _) | (with_reducible refine below_go ?_ (by with_reducible assumption)) | (with_reducible refine below_then (by with_reducible assumption) ?_ ?_) | go_size))
   have C3 := below_go C2 b3
   have B3 := below_go b0 C3
   rcases cu with _ | ⟨t, a, b⟩
   ·have e2 := Lib.hid (HJN.out HCU.out.symm)
    go_wp2
    go_ret
    rw [e2.out]
    exact ⟨rfl, B3⟩
   ·have e3 := HZ2.out _ rfl
    injection e3 with e3 e4
    injection e4 with e4 e5
    subst e3 e4 e5
    have e2 := Lib.hid (HJS.out t a b HCU.out.symm)
    obtain rfl : t = s := cut_fst s _ HCU.out.symm
    by_cases h1 : x = a
    ·have i1 : (x == a) = true := beq_iff_eq.2 h1
     by_cases h2 : y = b
     ·have i2 : (y == b) = true := beq_iff_eq.2 h2
      have I1 := Lib.hid i1; have I2 := Lib.hid i2
      subst h1 h2
      clear i1 i2
      go_wp2
      go_ret
      rw [e2.out, I1.out, I2.out]
      exact ⟨rfl, B3⟩
     ·have i2 : (y == b) = false := beq_eq_false_iff_ne.2 h2
      have I1 := Lib.hid i1; have I2 := Lib.hid i2
      subst h1
      clear i1
      go_wp2
      go_ret
      rw [e2.out, I1.out, I2.out]
      exact ⟨rfl, B3⟩
    ·have i1 : (x == a) = false := beq_eq_false_iff_ne.2 h1
     have I1 := Lib.hid i1
     go_wp2
     go_ret
     rw [e2.out, I1.out]
     exact ⟨rfl, B3⟩
 ·have hI : (N : Int) < (s.size : Int) := by omega
  have e2 := Lib.hid (show jusB (cutF st l kb ks N) N (s, x, y) = false from jus_f (show pfxB N s = false by rw [HPF.out, decide_eq_false hle]; rfl))
  clear hle
  refine wp_region_held_drew (S := fun u => (u.cell? ⟨D, 0, none⟩ = some (.string s) ∧ u.cell? ⟨D, 1, none⟩ = some (.int .i64 x) ∧ u.cell? ⟨D, 2, none⟩ = some (.int .i64 y)) ∧ u.cell? ⟨B, 5, none⟩ = some (.int .i64 (N : Int))) (by kernel_rfl) (CA.out _ C0) (fun hHeld => ?_)
  refine takeH 0 7 (v := ?_) rfl (by kernel_rfl) (by kernel_rfl) (by kernel_rfl) (fun _ _ _ h => h) (Or.inl ⟨by rfl, ?_⟩) (by assumption) ?_
  rotate_left
  ·(intro w hSw; (try dsimp only at hSw); go_simp) <;> with_reducible rfl
  (try simp only [Act.put, List.setIfInBounds_toArray, List.set_cons_zero, List.set_cons_succ])
  refine takeH 1 8 (v := ?_) rfl (by kernel_rfl) (by kernel_rfl) (by kernel_rfl) (fun _ _ _ h => h) (Or.inl ⟨by rfl, ?_⟩) (by assumption) ?_
  rotate_left
  ·(intro w hSw; (try dsimp only at hSw); go_simp) <;> with_reducible rfl
  (try simp only [Act.put, List.setIfInBounds_toArray, List.set_cons_zero, List.set_cons_succ])
  refine takeH 2 9 (v := ?_) rfl (by kernel_rfl) (by kernel_rfl) (by kernel_rfl) (fun _ _ _ h => h) (Or.inl ⟨by rfl, ?_⟩) (by assumption) ?_
  rotate_left
  ·(intro w hSw; (try dsimp only at hSw); go_simp) <;> with_reducible rfl
  (try simp only [Act.put, List.setIfInBounds_toArray, List.set_cons_zero, List.set_cons_succ])
  refine takeH 3 10 (v := ?_) rfl (by kernel_rfl) (by kernel_rfl) (by kernel_rfl) (fun _ _ _ h => h) (Or.inl ⟨by rfl, ?_⟩) (by assumption) ?_
  rotate_left
  ·(intro w hSw; (try dsimp only at hSw); go_simp) <;> with_reducible rfl
  (try simp only [Act.put, List.setIfInBounds_toArray, List.set_cons_zero, List.set_cons_succ])
  refine takeH 4 11 (v := ?_) rfl (by kernel_rfl) (by kernel_rfl) (by kernel_rfl) (fun _ _ _ h => h) (Or.inl ⟨by rfl, ?_⟩) (by assumption) ?_
  rotate_left
  ·(intro w hSw; (try dsimp only at hSw); go_simp) <;> with_reducible rfl
  (try simp only [Act.put, List.setIfInBounds_toArray, List.set_cons_zero, List.set_cons_succ])
  refine takeH 5 12 (v := ?_) rfl (by kernel_rfl) (by kernel_rfl) (by kernel_rfl) (fun _ _ _ h => h) (Or.inl ⟨by rfl, ?_⟩) (by assumption) ?_
  rotate_left
  ·(intro w hSw; (try dsimp only at hSw); go_simp) <;> with_reducible rfl
  (try simp only [Act.put, List.setIfInBounds_toArray, List.set_cons_zero, List.set_cons_succ])
  refine takeH 6 13 (v := ?_) rfl (by kernel_rfl) (by kernel_rfl) (by kernel_rfl) (fun _ _ _ h => h) (Or.inl ⟨by rfl, ?_⟩) (by assumption) ?_
  rotate_left
  ·(intro w hSw; (try dsimp only at hSw); go_simp) <;> with_reducible rfl
  (try simp only [Act.put, List.setIfInBounds_toArray, List.set_cons_zero, List.set_cons_succ])
  refine takeH 7 14 (v := ?_) rfl (by kernel_rfl) (by kernel_rfl) (by kernel_rfl) (fun _ _ _ h => h) (Or.inl ⟨by rfl, ?_⟩) (by assumption) ?_
  rotate_left
  ·(intro w hSw; (try dsimp only at hSw); go_simp) <;> with_reducible rfl
  (try simp only [Act.put, List.setIfInBounds_toArray, List.set_cons_zero, List.set_cons_succ])
  refine takeH 8 15 (v := ?_) rfl (by kernel_rfl) (by kernel_rfl) (by kernel_rfl) (fun _ _ _ h => h) (Or.inl ⟨by rfl, ?_⟩) (by assumption) ?_
  rotate_left
  ·(intro w hSw; (try dsimp only at hSw); go_simp) <;> with_reducible rfl
  (try simp only [Act.put, List.setIfInBounds_toArray, List.set_cons_zero, List.set_cons_succ])
  refine takeH 9 16 (v := undef) rfl (by kernel_rfl) (by kernel_rfl) (by kernel_rfl) (fun _ _ _ h => h) (Or.inr ⟨by rfl, rfl⟩) (by assumption) ?_
  (try simp only [Act.put, List.setIfInBounds_toArray, List.set_cons_zero, List.set_cons_succ])
  refine takeH 10 17 (v := undef) rfl (by kernel_rfl) (by kernel_rfl) (by kernel_rfl) (fun _ _ _ h => h) (Or.inr ⟨by rfl, rfl⟩) (by assumption) ?_
  (try simp only [Act.put, List.setIfInBounds_toArray, List.set_cons_zero, List.set_cons_succ])
  refine wpAnyH_ready (rs := [11]) (by kernel_rfl) (by simp) ?_
  refine AllReadyH.cons (o := _) rfl (fun K hK => ?_) AllReadyH.nil
  go_simp
  refine hK.out _ _ (CA.out _ C0) (fun hHeld => ?_)
  clear hK K
  (try simp only [Act.put, List.setIfInBounds_toArray, List.set_cons_zero, List.set_cons_succ])
  refine takeH 12 19 (v := undef) rfl (by kernel_rfl) (by kernel_rfl) (by kernel_rfl) (fun _ _ _ h => h) (Or.inr ⟨by rfl, rfl⟩) (by assumption) ?_
  (try simp only [Act.put, List.setIfInBounds_toArray, List.set_cons_zero, List.set_cons_succ])
  refine takeH 13 20 (v := ?_) rfl (by kernel_rfl) (by kernel_rfl) (by kernel_rfl) (fun _ _ _ h => h) (Or.inl ⟨by rfl, ?_⟩) (by assumption) ?_
  rotate_left
  ·(intro w hSw; (try dsimp only at hSw); go_simp) <;> with_reducible rfl
  (try simp only [Act.put, List.setIfInBounds_toArray, List.set_cons_zero, List.set_cons_succ])
  refine wpAnyH_done (by kernel_rfl) ?_ _
  (try simp only [Act.put, List.setIfInBounds_toArray, List.set_cons_zero, List.set_cons_succ])
  go_wp2
  go_ret
  rw [e2.out]
  exact ⟨rfl, below_go b0 C0⟩
end Go.Proofs.YtidolgonmimicaaGreat
namespace Go.Proofs.YtidolgonmimicaaGreat
open Go.ChangeShapes Go.WideShapes Go.ChangeAt Go.RowKit Go.Deep
open Go.Maps (Keyed string_keyed)
def askS (nm : ByteArray) (st : Nat) (l : List ByteArray) (kb ks : ByteArray) (N : Nat) : Bool := goodK nm (st : Int) l kb ks && inB (N : Int) 1 6
theorem askS_t {nm : ByteArray} {st : Nat} {l : List ByteArray} {kb ks : ByteArray} {N : Nat} (h : askS nm st l kb ks N = true) : goodK nm (st : Int) l kb ks = true ∧ 1 ≤ N ∧ N ≤ 6 := by
 rw [askS, Bool.and_eq_true] at h
 have := inB_t h.2
 exact ⟨h.1, by omega, by omega⟩
noncomputable def icV (nm : ByteArray) (st : Nat) (l : List ByteArray) (kb ks : ByteArray) (N : Nat) (c : Cut3) : Bool := askS nm st l kb ks N && jusB (cutF st l kb ks N) N c
set_option maxHeartbeats 1000000 in
theorem spec_l13Asked {A : Option Addr} {n c st : Nat} {nm : ByteArray} {l : List ByteArray} {kb ks : ByteArray} {N : Nat} {w : World} (hn : l.length = n) (h : Strs w A l) (hz : n ≤ 1048576) (hs : ∀ s ∈ l, s.size ≤ 16777216) (hnm : nm.size ≤ 16777216) (h9 : st ≤ 1000) (hkb : kb.size ≤ 16777216) (hks : ks.size ≤ 16777216) (hN : N ≤ 1000) :
  Calls Tryz.prog 77 #[.agg #[.string nm, .int .i64 st, .slice A n c], .agg #[.string kb, .string ks], .int .i64 (N : Int)] w fun e w' => e = .returned (.bool (askS nm st l kb ks N)) ∧ Below w.heap.size w w' := by
 have HA : Hid (askS nm st l kb ks N = (goodK nm (st : Int) l kb ks && inB (N : Int) 1 6)) := Lib.hid rfl
 have b0 : Below w.heap.size w ((w.alloc (.cells ⟨[.string nm, .int .i64 st, .slice A n c]⟩ 25)).alloc (.cells ⟨[.string kb, .string ks]⟩ 27)) := by (repeat' (first | (with_reducible exact Below.refl _ _) | (with_reducible assumption) | (with_reducible refine below_drewN ?_ _) | (with_reducible refine Below.drew ?_) | (with_reducible refine below_alloc ?_ _) | (with_reducible refine Below.alloc ?_ ?_ _) | (with_reducible refine Below.setCell ?_ ?_ _) | (with_reducible refine below_go ?_ (by with_reducible assumption)) | (with_reducible refine below_then (by with_reducible assumption) ?_ ?_) | go_size))
 have hI : I64 (st : Int) := ⟨by omega, by omega⟩
 go_in
 go_wp2_with fail
 refine (spec_l8Good hn (h.up b0) hz hs hnm hI hkb hks).mono ?_; rintro e w1 ⟨rfl, hb1⟩
 have B1 := below_go b0 hb1
 rcases hk : goodK nm (st : Int) l kb ks
 ·have e2 := Lib.hid hk
  go_wp2
  go_ret
  rw [HA.out, e2.out]
  exact ⟨rfl, B1⟩
 ·have e2 := Lib.hid hk
  go_wp2_with fail
  refine (spec_l1In _ _ _ _).mono ?_; rintro e w2 ⟨rfl, rfl⟩
  go_wp2
  go_ret
  rw [HA.out, e2.out]
  exact ⟨rfl, B1⟩
set_option maxRecDepth 100000 in
theorem spec_l13Prefix {t : ByteArray} {N : Nat} {w : World} (hz : t.size ≤ 16777216) (hN : N ≤ 1000) :
  Calls Tryz.prog 169 #[.string t, .int .i64 (N : Int)] w fun e w' => e = .returned (.bool (pfxB N t)) ∧ w = w' := by
 have gb := PlainAid.get_bt t
 have HQ : Hid (pfxB N t = (decide (t.size ≤ N) && (List.range t.size).all (callB t))) := Lib.hid rfl
 go_in
 go_wp2
 go_loopw [5] (fun i wr => ∃ k : Nat, k ≤ t.size ∧ i = .int .i64 k ∧ Hid (∀ j, j < k → callB t j = true) ∧ w = wr) (fun i _ => t.size - (intOf i).toNat)
 case atStart => exact ⟨0, Nat.zero_le _, rfl, Lib.hid (fun j hj => absurd hj (by omega)), rfl⟩
 case round =>
  obtain ⟨k, hk, rfl, HK, rfl⟩ := hrel
  by_cases hlt : k < t.size
  ·go_wp2_with fail
   refine (spec_l8Call (s := letter t k)).mono ?_; rintro e w' ⟨rfl, rfl⟩
   have E := Lib.hid (isCl_letter hlt)
   rcases hg : isCl (letter t k)
   ·have e1 := Lib.hid (show pfxB N t = false by
     rw [HQ.out, show (List.range t.size).all (callB t) = false from by rw [List.all_eq_false]; exact ⟨k, List.mem_range.2 hlt, by rw [← E.out, hg]; simp⟩, Bool.and_false])
    go_wp2
    go_ret
    rw [e1.out]
    exact ⟨rfl, rfl⟩
   ·have e1 := Lib.hid (show callB t k = true by rw [← E.out, hg])
    go_wp2
    go_roundw
    case rel => exact ⟨k + 1, by omega, by go_num, Lib.hid (upto_succ HK.out e1.out), trivial⟩
    case measure => simp [intOf]; omega
  ·obtain rfl : k = t.size := by omega
   have e1 := Lib.hid (show pfxB N t = decide (t.size ≤ N) by rw [HQ.out, show (List.range t.size).all (callB t) = true from by rw [List.all_eq_true]; exact fun j hj => HK.out j (List.mem_range.1 hj), Bool.and_true])
   by_cases hle : t.size ≤ N
   ·have hI : (t.size : Int) ≤ (N : Int) := by omega
    have e3 := Lib.hid (decide_eq_true hle)
    clear hle
    go_wp2
    go_ret
    rw [e1.out, e3.out]
    exact ⟨rfl, rfl⟩
   ·have hI : ¬ (t.size : Int) ≤ (N : Int) := by omega
    have e3 := Lib.hid (decide_eq_false hle)
    clear hle
    go_wp2
    go_ret
    rw [e1.out, e3.out]
    exact ⟨rfl, rfl⟩
end Go.Proofs.YtidolgonmimicaaGreat
namespace Go.Proofs.YtidolgonmimicaaGreat
open Go.ChangeShapes Go.WideShapes Go.ChangeAt Go.RowKit Go.Deep
set_option maxHeartbeats 4000000 in
set_option maxRecDepth 100000 in
theorem spec_l13Cut {A : Option Addr} {n c st : Nat} {nm : ByteArray} {l : List ByteArray} {kb ks p : ByteArray} {N : Nat} {w : World} (hn : l.length = n) (h : Strs w A l) (hz : n ≤ 1048576) (hs : ∀ s ∈ l, s.size ≤ 16777216) (hnm : nm.size ≤ 16777216) (h9 : st ≤ 1000) (hk : goodK nm (st : Int) l kb ks = true) (hp : preT p) (hN : N ≤ 1000) (hcap : n ≤ c) :
  Calls Tryz.prog 152 #[.agg #[.string nm, .int .i64 st, .slice A n c], .agg #[.string kb, .string ks], .int .i64 (N : Int), .string p] w fun e w' => CutR (cutF st l kb ks N p) w e w' := by
 have h38 := (goodK_all hk).1
 have hGM := (goodK_t hk).1
 have hp60 := hp.1
 have HLT : Hid (ltV nm st l = nodupB (leadL st l)) := Lib.hid (by rw [ltV, hGM, Bool.true_and])
 have b0 : Below w.heap.size w (((w.alloc (.cells ⟨[.string nm, .int .i64 st, .slice A n c]⟩ 25)).alloc (.cells ⟨[.string kb, .string ks]⟩ 27)).alloc (.cells #[.string ⟨#[]⟩, .int .i64 0, .int .i64 0] 29)) := by (repeat' (first | (with_reducible exact Below.refl _ _) | (with_reducible assumption) | (with_reducible refine below_drewN ?_ _) | (with_reducible refine Below.drew ?_) | (with_reducible refine below_alloc ?_ _) | (with_reducible refine Below.alloc ?_ ?_ _) | (with_reducible refine Below.setCell ?_ ?_ _) | (with_reducible refine below_go ?_ (by with_reducible assumption)) | (with_reducible refine below_then (by with_reducible assumption) ?_ ?_) | go_size))
 have K0 := ((Blk.at_ w 25 [.string nm, .int .i64 st, .slice A n c] (b := w.heap.size) rfl).alloc (.cells ⟨[.string kb, .string ks]⟩ 27)).alloc (.cells #[.string ⟨#[]⟩, .int .i64 0, .int .i64 0] 29)
 have J0 := (Blk.at_ (w.alloc (.cells ⟨[.string nm, .int .i64 st, .slice A n c]⟩ 25)) 27 [.string kb, .string ks] (b := w.heap.size + 1) (by simp)).alloc (.cells #[.string ⟨#[]⟩, .int .i64 0, .int .i64 0] 29)
 have D0 := Blk.at_ ((w.alloc (.cells ⟨[.string nm, .int .i64 st, .slice A n c]⟩ 25)).alloc (.cells ⟨[.string kb, .string ks]⟩ 27)) 29 cut0 (b := w.heap.size + 1 + 1) (by simp)
 have HS := Lib.hid (h.up b0)
 clear h
 go_in
 go_wp2_with fail
 obtain ⟨w0, hw0⟩ : ∃ u, u = (((w.alloc (.cells #[.string nm, .int .i64 st, .slice A n c] 25)).alloc (.cells #[.string kb, .string ks] 27)).alloc (.cells #[.string ⟨#[]⟩, .int .i64 0, .int .i64 0] 29)) := ⟨_, rfl⟩
 rw [← hw0] at b0 K0 J0 D0 HS ⊢
 clear hw0
 obtain ⟨M, hM⟩ : ∃ u, u = w.heap.size := ⟨_, rfl⟩
 have fin : Hid (∀ (u : World) (x0 x1 x2 : Value), Below w.heap.size w u → M + 1 + 1 < u.heap.size → Below w.heap.size w (((u.setCell ⟨M + 1 + 1, 0, none⟩ x0).setCell ⟨M + 1 + 1, 1, none⟩ x1).setCell ⟨M + 1 + 1, 2, none⟩ x2)) := Lib.hid (fun u x0 x1 x2 hu hDu => by
  subst hM
  exact ((hu.setCell (p := ⟨_, 0, none⟩) (by simp; omega) _).setCell (p := ⟨_, 1, none⟩) (by simp; omega) _).setCell (p := ⟨_, 2, none⟩) (by simp; omega) _)
 rw [← hM] at K0 J0 D0 ⊢
 clear hM
 refine (spec_l13Heads (nm := nm) (t := p) hn HS.out hk hp hcap).mono ?_; rintro e w1 ⟨A1, c1, rfl, ho1, hb1⟩
 have HO := Lib.hid ho1
 have hcap1 := ho1.cap
 clear ho1
 obtain ⟨g, rfl, g0, g1, gc, _⟩ := HO.out.at_ (by omega)
 have HGC := Lib.hid (fun (j : Nat) (hj : j < p.size + 1) (u : World) (hu : Below w1.heap.size w1 u) => show u.cell? ⟨g, j, none⟩ = some (.string (hdAt st l kb ks p j)) from by
  have cg := gc j _ 0 _ (hdsL_at hj) rfl
  simp only [Nat.mul_one, Nat.add_zero] at cg
  exact (hu.cell (p := ⟨g, j, none⟩) g1).trans cg)
 have cg := HGC.out p.size (by omega) w1 (Below.refl _ _)
 have HRN := Lib.hid (fun j => hdAt_good h38.1 h38.2 l kb ks p j)
 have K1 := K0.up hb1
 have J1 := J0.up hb1
 have D1 := D0.up hb1
 have HS1 := Lib.hid (HS.out.up hb1)
 have B1 := below_go b0 hb1
 have hcL : (p.size : Int) < (p.size : Int) + 1 := by omega
 have hcM : (p.size : Int) ≤ (p.size : Int) + 1 := by omega
 have hcN : (p.size : Int) ≤ (c1 : Int) := by omega
 clear K0 J0 D0 HS hb1 gc
 have kc0 := K1.cell 0; have kc1 := K1.cell 1; have kc2 := K1.cell 2; have jc0 := J1.cell 0; have jc1 := J1.cell 1
 simp only [List.getElem?_cons_zero, List.getElem?_cons_succ] at kc0 kc1 kc2 jc0 jc1
 have hDlt := D1.lt
 have d0 := D1.cell 0; have d1 := D1.cell 1; have d2 := D1.cell 2
 simp only [List.getElem?_cons_zero, List.getElem?_cons_succ] at d0 d1 d2
 have f0 := D1.frozen 0; have f1 := D1.frozen 1; have f2 := D1.frozen 2
 have CL := Lib.hid (@cut_lead st N l kb ks p)
 have CLF := Lib.hid (@cut_lead' st N l kb ks p)
 have CO := Lib.hid (@cut_open st N l kb ks p)
 have COF := Lib.hid (@cut_open' st N l kb ks p)
 have CC := Lib.hid (@cut_clash st N l kb ks p)
 have CF := Lib.hid (@cut_free st N l kb ks p)
 by_cases hz0 : p.size = 0
 ·have hpe := Lib.hid (size_zero hz0)
  have hbe : (p.toList == ([] : List UInt8)) = true := by rw [hpe.out, ByteArray.toList_eq]; rfl
  rcases hl : nodupB (leadL st l)
  ·have e2 := Lib.hid ((CLF.out hz0 hl).trans (show some (p, (1 : Int), (0 : Int)) = some (⟨#[]⟩, 1, 0) by rw [hpe.out]))
   have HL := Lib.hid hl
   clear hl hz0
   go_wp2_with fail
   refine (spec_IsLeadTrue (nm := nm) hn HS1.out hz hs hnm h9).mono ?_; rw [HLT.out, HL.out]; rintro e w2 ⟨rfl, hb2⟩
   have B2 := below_go B1 hb2
   replace D1 := D1.up hb2
   clear d0 d1 d2 f0 f1 f2 B1 hDlt
   have hDlt := D1.lt
   have d0 := D1.cell 0; have d1 := D1.cell 1; have d2 := D1.cell 2
   simp only [List.getElem?_cons_zero, List.getElem?_cons_succ] at d0 d1 d2
   have f0 := D1.frozen 0; have f1 := D1.frozen 1; have f2 := D1.frozen 2
   have V := ((D1.set_ 0 (.string ⟨#[]⟩)).set_ 1 (.int .i64 1)).set_ 2 (.int .i64 0)
   have v0 := V.cell 0; have v1 := V.cell 1; have v2 := V.cell 2
   simp only [List.set_cons_zero, List.set_cons_succ, List.getElem?_cons_zero, List.getElem?_cons_succ] at v0 v1 v2
   clear V
   go_wp2_with fail
   refine bodyPost_ret (v := .tuple #[.agg #[.string ⟨#[]⟩, .int .i64 1, .int .i64 0], .bool true]) (by simp [results, Tryz.results152, go_sem, v0, v1, v2]) rfl ?_
   exact CutR.mk _ _ _ true rfl e2.out (by with_reducible (first | exact fin.out _ _ _ _ (by assumption) hDlt | exact below_drewN (fin.out _ _ _ _ (by assumption) hDlt) _ | exact (fin.out _ _ _ _ (by assumption) hDlt).drew))
  ·have e2 := Lib.hid (CL.out hz0 hl)
   have HL := Lib.hid hl
   clear hl hz0
   go_wp2_with fail
   refine (spec_IsLeadTrue (nm := nm) hn HS1.out hz hs hnm h9).mono ?_; rw [HLT.out, HL.out]; rintro e w2 ⟨rfl, hb2⟩
   have B2 := below_go B1 hb2
   replace D1 := D1.up hb2
   clear d0 d1 d2 f0 f1 f2 B1 hDlt
   have hDlt := D1.lt
   have d0 := D1.cell 0; have d1 := D1.cell 1; have d2 := D1.cell 2
   simp only [List.getElem?_cons_zero, List.getElem?_cons_succ] at d0 d1 d2
   have f0 := D1.frozen 0; have f1 := D1.frozen 1; have f2 := D1.frozen 2
   have V := ((D1.set_ 0 (.string ⟨#[]⟩)).set_ 1 (.int .i64 1)).set_ 2 (.int .i64 0)
   have v0 := V.cell 0; have v1 := V.cell 1; have v2 := V.cell 2
   simp only [List.set_cons_zero, List.set_cons_succ, List.getElem?_cons_zero, List.getElem?_cons_succ] at v0 v1 v2
   clear V
   go_wp2_with fail
   refine bodyPost_ret (v := .tuple #[.agg #[.string ⟨#[]⟩, .int .i64 1, .int .i64 0], .bool false]) (by simp [results, Tryz.results152, go_sem, v0, v1, v2]) rfl ?_
   exact CutR.mk _ _ _ false rfl e2.out (by with_reducible (first | exact fin.out _ _ _ _ (by assumption) hDlt | exact below_drewN (fin.out _ _ _ _ (by assumption) hDlt) _ | exact (fin.out _ _ _ _ (by assumption) hDlt).drew))
 ·have hne := ne_empty hz0
  by_cases hpn : p.size = N
  ·have hI : ((p.size : Int) == (N : Int)) = true := by rw [hpn]; simp
   by_cases he : hdAt st l kb ks p p.size = roundsS st
   ·have e2 := Lib.hid (CO.out hz0 hpn he)
    have hbe : ((hdAt st l kb ks p p.size).toList == (roundsS st).toList) = true := by rw [he]; simp
    clear he hpn hz0
    have V := ((D1.set_ 0 (.string p)).set_ 1 (.int .i64 3)).set_ 2 (.int .i64 0)
    have v0 := V.cell 0; have v1 := V.cell 1; have v2 := V.cell 2
    simp only [List.set_cons_zero, List.set_cons_succ, List.getElem?_cons_zero, List.getElem?_cons_succ] at v0 v1 v2
    clear V
    go_wp2_with (go_at_call 90; refine (spec_l1Rounds h38.2).mono ?_; rintro e w' ⟨rfl, rfl⟩)
    refine bodyPost_ret (v := .tuple #[.agg #[.string p, .int .i64 3, .int .i64 0], .bool false]) (by simp [results, Tryz.results152, go_sem, v0, v1, v2]) rfl ?_
    exact CutR.mk _ _ _ false rfl e2.out (by with_reducible (first | exact fin.out _ _ _ _ (by assumption) hDlt | exact below_drewN (fin.out _ _ _ _ (by assumption) hDlt) _ | exact (fin.out _ _ _ _ (by assumption) hDlt).drew))
   ·have e2 := Lib.hid (COF.out hz0 hpn he)
    have hbe := bytes_ne he
    clear he hpn hz0
    have V := ((D1.set_ 0 (.string p)).set_ 1 (.int .i64 3)).set_ 2 (.int .i64 0)
    have v0 := V.cell 0; have v1 := V.cell 1; have v2 := V.cell 2
    simp only [List.set_cons_zero, List.set_cons_succ, List.getElem?_cons_zero, List.getElem?_cons_succ] at v0 v1 v2
    clear V
    go_wp2_with (go_at_call 90; refine (spec_l1Rounds h38.2).mono ?_; rintro e w' ⟨rfl, rfl⟩)
    refine bodyPost_ret (v := .tuple #[.agg #[.string p, .int .i64 3, .int .i64 0], .bool true]) (by simp [results, Tryz.results152, go_sem, v0, v1, v2]) rfl ?_
    exact CutR.mk _ _ _ true rfl e2.out (by with_reducible (first | exact fin.out _ _ _ _ (by assumption) hDlt | exact below_drewN (fin.out _ _ _ _ (by assumption) hDlt) _ | exact (fin.out _ _ _ _ (by assumption) hDlt).drew))
  ·have hI : ((p.size : Int) == (N : Int)) = false := by rw [beq_eq_false_iff_ne]; omega
   have HZ := Lib.hid hz0
   have HPN := Lib.hid hpn
   have HCL := Lib.hid (fun (i : Nat) => show clsAt st l kb ks p p.size i = decide (0 < (meetL (leadL st l) ((leadL st l).map (timesS (timesS (turnS (hdAt st l kb ks p i)) (hdAt st l kb ks p p.size))))).length) from by
    have hf : RowN st (timesS (turnS (hdAt st l kb ks p i)) (hdAt st l kb ks p p.size)) := (turn_rowN (HRN.out i)).times (HRN.out p.size)
    rw [clsAt, Bool.eq_iff_iff, inL_iff, decide_eq_true_iff, ← meet_iff (leadL_row h38.1 h38.2 l) hf, List.length_pos_iff])
   have HB1 := Lib.hid B1
   have HK1 := Lib.hid K1
   have HD1 := Lib.hid D1
   clear hz0 hpn B1 K1 D1 J1 d0 d1 d2 f0 f1 f2
   go_wp2
   clear kc0 kc1 kc2 jc0 jc1
   go_loopw [51] (fun v wr => ∃ k : Nat, k ≤ p.size ∧ v = .int .i64 k ∧ Hid (∀ j, j < k → clsAt st l kb ks p p.size j = false) ∧ Hid (Below w1.heap.size w1 wr)) (fun v _ => p.size - (intOf v).toNat)
   case atStart => exact ⟨0, Nat.zero_le _, rfl, Lib.hid (fun j hj => absurd hj (by omega)), Lib.hid (Below.refl _ _)⟩
   case round =>
    obtain ⟨k, hk1, rfl, HLO, HBR⟩ := hrel
    rename World => wr
    have K1 := HK1.out.up HBR.out
    have D1 := HD1.out.up HBR.out
    have B1 := below_go HB1.out HBR.out
    have hDlt := D1.lt
    have d0 := D1.cell 0; have d1 := D1.cell 1; have d2 := D1.cell 2
    simp only [List.getElem?_cons_zero, List.getElem?_cons_succ] at d0 d1 d2
    have f0 := D1.frozen 0; have f1 := D1.frozen 1; have f2 := D1.frozen 2
    by_cases hlt : k < p.size
    ·have hI2 : (k : Int) < (p.size : Int) := by omega
     have cgk := HGC.out k (by omega) wr HBR.out
     have hRk := HRN.out k
     have hRp := HRN.out p.size
     go_upto_region 11 with fail
     have C0 : Below wr.heap.size wr wr.drew := (Below.refl _ _).drew
     have CA : Hid (∀ u : World, Below wr.heap.size wr u → u.cell? ⟨M, 0, none⟩ = some (.string nm) ∧ u.cell? ⟨M, 1, none⟩ = some (.int .i64 st) ∧ u.cell? ⟨M, 2, none⟩ = some (.slice A n c)) := Lib.hid (fun u hu => by
      have L0 := K1.up hu
      exact ⟨by simpa using L0.cell 0, by simpa using L0.cell 1, by simpa using L0.cell 2⟩)
     have hhz : (hdAt st l kb ks p k).size ≤ 16777216 := by rw [hRk.2]; omega
     have hpz : (hdAt st l kb ks p p.size).size ≤ 16777216 := by rw [hRp.2]; omega
     refine wp_region_held_drew (S := fun u => u.cell? ⟨M, 0, none⟩ = some (.string nm) ∧ u.cell? ⟨M, 1, none⟩ = some (.int .i64 st) ∧ u.cell? ⟨M, 2, none⟩ = some (.slice A n c)) (by kernel_rfl) (CA.out _ C0) (fun hHeld => ?_)
     refine takeH 0 56 (v := ?_) rfl (by kernel_rfl) (by kernel_rfl) (by kernel_rfl) (fun _ _ _ h => h) (Or.inl ⟨by rfl, ?_⟩) (by assumption) ?_
     rotate_left
     ·(intro w hSw; (try dsimp only at hSw); go_simp) <;> with_reducible rfl
     (try simp only [Act.put, List.setIfInBounds_toArray, List.set_cons_zero, List.set_cons_succ])
     refine takeH 1 57 (v := ?_) rfl (by kernel_rfl) (by kernel_rfl) (by kernel_rfl) (fun _ _ _ h => h) (Or.inl ⟨by rfl, ?_⟩) (by assumption) ?_
     rotate_left
     ·(intro w hSw; (try dsimp only at hSw); go_simp) <;> with_reducible rfl
     (try simp only [Act.put, List.setIfInBounds_toArray, List.set_cons_zero, List.set_cons_succ])
     refine takeH 3 59 (v := ?_) rfl (by kernel_rfl) (by kernel_rfl) (by kernel_rfl) (fun _ _ _ h => h) (Or.inl ⟨by rfl, ?_⟩) (by assumption) ?_
     rotate_left
     ·(intro w hSw; (try dsimp only at hSw); go_simp) <;> with_reducible rfl
     (try simp only [Act.put, List.setIfInBounds_toArray, List.set_cons_zero, List.set_cons_succ])
     refine wpAnyH_ready (rs := [2]) (by kernel_rfl) (by simp) ?_
     refine AllReadyH.cons (o := _) rfl (fun K hK => ?_) AllReadyH.nil
     go_simp
     refine (spec_l1Turn hRk.1).mono ?_; rintro e w3 ⟨rfl, hb3, hrt⟩
     have C1 := below_go C0 hb3
     rw [hRk.2] at hrt
     have hft := rowN_fits hrt hRp
     have htz : (turnS (hdAt st l kb ks p k)).size ≤ 16777216 := by rw [hrt.2]; omega
     try go_wp2_with fail
     refine hK.out _ _ (CA.out _ C1) (fun hHeld => ?_)
     clear hK K
     (try simp only [Act.put, List.setIfInBounds_toArray, List.set_cons_zero, List.set_cons_succ])
     refine wpAnyH_ready (rs := [4]) (by kernel_rfl) (by simp) ?_
     refine AllReadyH.cons (o := _) rfl (fun K hK => ?_) AllReadyH.nil
     go_simp
     refine (spec_l1Times htz hpz hft).mono ?_; rintro e w4 ⟨rfl, hw4⟩
     have CT : Below wr.heap.size wr w4 := by rw [← hw4]; exact C1
     have hRR := hrt.times hRp
     try go_wp2_with fail
     refine hK.out _ _ (CA.out _ CT) (fun hHeld => ?_)
     clear hK K
     (try simp only [Act.put, List.setIfInBounds_toArray, List.set_cons_zero, List.set_cons_succ])
     refine wpAnyH_ready (rs := [5]) (by kernel_rfl) (by simp) ?_
     refine AllReadyH.cons (o := _) rfl (fun K hK => ?_) AllReadyH.nil
     go_simp
     refine (spec_l11Shared (nm := nm) hn (HS1.out.up (HBR.out.trans (CT.mono HBR.out.size))) hz hs hnm h9 hGM hRR).mono ?_; rintro e w5 ⟨A5, m5, c5, rfl, ho5, hm5, hb5⟩
     have C2 := below_go CT hb5
     have HQ := Lib.hid (show clsAt st l kb ks p p.size k = decide (0 < m5) from by rw [HCL.out, ho5.len])
     clear ho5
     try go_wp2_with fail
     refine hK.out _ _ (CA.out _ C2) (fun hHeld => ?_)
     clear hK K
     (try simp only [Act.put, List.setIfInBounds_toArray, List.set_cons_zero, List.set_cons_succ])
     refine takeH 6 62 (v := ?_) rfl (by kernel_rfl) (by kernel_rfl) (by kernel_rfl) (fun _ _ _ h => h) (Or.inl ⟨by rfl, ?_⟩) (by assumption) ?_
     rotate_left
     ·(intro w hSw; (try dsimp only at hSw); go_simp) <;> with_reducible rfl
     (try simp only [Act.put, List.setIfInBounds_toArray, List.set_cons_zero, List.set_cons_succ])
     refine takeH 7 63 (v := ?_) rfl (by kernel_rfl) (by kernel_rfl) (by kernel_rfl) (fun _ _ _ h => h) (Or.inl ⟨by rfl, ?_⟩) (by assumption) ?_
     rotate_left
     ·(intro w hSw; (try dsimp only at hSw); go_simp) <;> with_reducible rfl
     (try simp only [Act.put, List.setIfInBounds_toArray, List.set_cons_zero, List.set_cons_succ])
     refine wpAnyH_done (by kernel_rfl) ?_ _
     (try simp only [Act.put, List.setIfInBounds_toArray, List.set_cons_zero, List.set_cons_succ])
     have B2 := below_go B1 C2
     rcases hq : clsAt st l kb ks p p.size k
     ·have HL2 := Lib.hid (show ∀ j, j < k + 1 → clsAt st l kb ks p p.size j = false from fun j hj => by
       rcases Nat.lt_or_ge j k with z | z
       ·exact HLO.out j z
       ·obtain rfl : j = k := by omega
        exact hq)
      have HB2 := Lib.hid (HBR.out.trans (C2.mono HBR.out.size))
      have hm0 : ¬ 0 < m5 := by rw [HQ.out, decide_eq_false_iff_not] at hq; exact hq
      have hmI : ¬ (0 : Int) < (m5 : Int) := by omega
      clear hq
      go_wp2
      go_roundw
      case rel => exact ⟨k + 1, by omega, by go_num, HL2, HB2⟩
      case measure => simp [intOf]; omega
     ·have e2 := Lib.hid (show cutF st l kb ks N p = some (p, 2, (k : Int)) from CC.out HZ.out HPN.out hlt HLO.out hq)
      have hm0 : 0 < m5 := by rw [HQ.out, decide_eq_true_iff] at hq; exact hq
      have hmI : (0 : Int) < (m5 : Int) := by omega
      have D1 := D1.up C2
      clear hq
      have hDlt := D1.lt
      have d0 := D1.cell 0; have d1 := D1.cell 1; have d2 := D1.cell 2
      simp only [List.getElem?_cons_zero, List.getElem?_cons_succ] at d0 d1 d2
      have f0 := D1.frozen 0; have f1 := D1.frozen 1; have f2 := D1.frozen 2
      have V := ((D1.set_ 0 (.string p)).set_ 1 (.int .i64 2)).set_ 2 (.int .i64 (k : Int))
      have v0 := V.cell 0; have v1 := V.cell 1; have v2 := V.cell 2
      simp only [List.set_cons_zero, List.set_cons_succ, List.getElem?_cons_zero, List.getElem?_cons_succ] at v0 v1 v2
      clear V
      go_wp2_with fail
      refine bodyPost_ret (v := .tuple #[.agg #[.string p, .int .i64 2, .int .i64 (k : Int)], .bool true]) (by simp [results, Tryz.results152, go_sem, v0, v1, v2]) rfl ?_
      exact CutR.mk _ _ _ true rfl e2.out (by with_reducible (first | exact fin.out _ _ _ _ (by assumption) hDlt | exact below_drewN (fin.out _ _ _ _ (by assumption) hDlt) _ | exact (fin.out _ _ _ _ (by assumption) hDlt).drew))
    ·obtain rfl : k = p.size := by omega
     have hI2 : ¬ (p.size : Int) < (p.size : Int) := by omega
     have e2 := Lib.hid (CF.out HZ.out HPN.out HLO.out)
     have V := ((D1.set_ 0 (.string ⟨#[]⟩)).set_ 1 (.int .i64 0)).set_ 2 (.int .i64 0)
     have v0 := V.cell 0; have v1 := V.cell 1; have v2 := V.cell 2
     simp only [List.set_cons_zero, List.set_cons_succ, List.getElem?_cons_zero, List.getElem?_cons_succ] at v0 v1 v2
     clear V
     go_wp2_with fail
     refine bodyPost_ret (v := .tuple #[.agg #[.string ⟨#[]⟩, .int .i64 0, .int .i64 0], .bool false]) (by simp [results, Tryz.results152, go_sem, v0, v1, v2]) rfl ?_
     exact CutR.mk _ _ _ false rfl e2.out (by with_reducible (first | exact fin.out _ _ _ _ (by assumption) hDlt | exact below_drewN (fin.out _ _ _ _ (by assumption) hDlt) _ | exact (fin.out _ _ _ _ (by assumption) hDlt).drew))
set_option maxHeartbeats 4000000 in
set_option maxRecDepth 100000 in
theorem spec_l13IsCut {A : Option Addr} {n c st : Nat} {nm : ByteArray} {l : List ByteArray} {kb ks s : ByteArray} {N : Nat} {x y : Int} {w : World} (hn : l.length = n) (h : Strs w A l) (hz : n ≤ 1048576) (hs : ∀ s ∈ l, s.size ≤ 16777216) (hnm : nm.size ≤ 16777216) (h9 : st ≤ 1000) (hk : goodK nm (st : Int) l kb ks = true) (hN : N ≤ 60) (hsz : s.size ≤ 16777216) (hcap : n ≤ c) :
  Calls Tryz.prog 78 #[.agg #[.string nm, .int .i64 st, .slice A n c], .agg #[.string kb, .string ks], .int .i64 (N : Int), .agg #[.string s, .int .i64 x, .int .i64 y]] w fun e w' => e = .returned (.bool (jusB (cutF st l kb ks N) N (s, x, y))) ∧ Below w.heap.size w w' := by
 have b0 : Below w.heap.size w (((w.alloc (.cells ⟨[.string nm, .int .i64 st, .slice A n c]⟩ 25)).alloc (.cells ⟨[.string kb, .string ks]⟩ 27)).alloc (.cells #[.string s, .int .i64 x, .int .i64 y] 29)) := by (repeat' (first | (with_reducible exact Below.refl _ _) | (with_reducible assumption) | (with_reducible refine below_drewN ?_ _) | (with_reducible refine Below.drew ?_) | (with_reducible refine below_alloc ?_ _) | (with_reducible refine Below.alloc ?_ ?_ _) | (with_reducible refine Below.setCell ?_ ?_ _) | (with_reducible refine below_go ?_ (by with_reducible assumption)) | (with_reducible refine below_then (by with_reducible assumption) ?_ ?_) | go_size))
 have K1 := ((Blk.at_ w 25 [.string nm, .int .i64 st, .slice A n c] (b := w.heap.size) rfl).alloc (.cells ⟨[.string kb, .string ks]⟩ 27)).alloc (.cells #[.string s, .int .i64 x, .int .i64 y] 29)
 have J1 := (Blk.at_ (w.alloc (.cells ⟨[.string nm, .int .i64 st, .slice A n c]⟩ 25)) 27 [.string kb, .string ks] (b := w.heap.size + 1) (by simp)).alloc (.cells #[.string s, .int .i64 x, .int .i64 y] 29)
 have D1 := Blk.at_ ((w.alloc (.cells ⟨[.string nm, .int .i64 st, .slice A n c]⟩ 25)).alloc (.cells ⟨[.string kb, .string ks]⟩ 27)) 29 [.string s, .int .i64 x, .int .i64 y] (b := w.heap.size + 1 + 1) (by simp)
 have HS := Lib.hid (h.up b0)
 have HPF := Lib.hid (@jus_f (cutF st l kb ks N) N (s, x, y))
 clear h
 go_in
 go_wp2_with fail
 obtain ⟨w0, hw0⟩ : ∃ u, u = (((w.alloc (.cells #[.string nm, .int .i64 st, .slice A n c] 25)).alloc (.cells #[.string kb, .string ks] 27)).alloc (.cells #[.string s, .int .i64 x, .int .i64 y] 29)) := ⟨_, rfl⟩
 rw [← hw0] at b0 K1 J1 D1 HS ⊢
 clear hw0
 obtain ⟨M, hM⟩ : ∃ u, u = w.heap.size := ⟨_, rfl⟩
 rw [← hM] at K1 J1 D1 ⊢
 clear hM
 refine (spec_l13Prefix hsz (by omega)).mono ?_; rintro e w1 ⟨rfl, rfl⟩
 rcases hpf : pfxB N s
 ·have e2 := Lib.hid (HPF.out hpf)
  go_wp2
  go_ret
  rw [e2.out]
  exact ⟨rfl, b0⟩
 ·have HP := Lib.hid hpf
  clear hpf
  have kc0 := K1.cell 0; have kc1 := K1.cell 1; have kc2 := K1.cell 2; have jc0 := J1.cell 0; have jc1 := J1.cell 1
  simp only [List.getElem?_cons_zero, List.getElem?_cons_succ] at kc0 kc1 kc2 jc0 jc1
  have d0 := D1.cell 0; have d1 := D1.cell 1; have d2 := D1.cell 2
  simp only [List.getElem?_cons_zero, List.getElem?_cons_succ] at d0 d1 d2
  have hpp := pfx_pre HP.out hN
  have HJN := Lib.hid (fun hq => @jus_none (cutF st l kb ks N) N (s, x, y) hq)
  have HJS := Lib.hid (fun (t : ByteArray) (a b : Int) hq => @jus_some (cutF st l kb ks N) N s t x y a b HP.out hq (cut_fst s _ hq))
  obtain ⟨cu, hcu⟩ : ∃ u, u = cutF st l kb ks N s := ⟨_, rfl⟩
  have HCU := Lib.hid hcu
  clear hcu
  go_wp2_with fail
  refine (spec_l13Cut (nm := nm) hn HS.out hz hs hnm h9 hk hpp.1 (by omega) hcap).mono ?_; rw [← HCU.out]; intro e w2 hx
  obtain ⟨s2, x2, y2, rfl, hz2, hb2⟩ := hx
  have D2 := D1.up hb2
  have HZ2 := Lib.hid hz2
  clear hz2 d0 d1 d2 D1 kc0 kc1 kc2 jc0 jc1
  have d0 := D2.cell 0; have d1 := D2.cell 1; have d2 := D2.cell 2
  simp only [List.getElem?_cons_zero, List.getElem?_cons_succ] at d0 d1 d2
  have hDlt := D2.lt
  have hDne : ¬ M + 1 + 1 = w2.heap.size := by omega
  have D3 := D2.alloc (.cells #[.string s2, .int .i64 x2, .int .i64 y2] 29)
  have c0 := D3.cell 0; have c1 := D3.cell 1; have c2 := D3.cell 2
  simp only [List.getElem?_cons_zero, List.getElem?_cons_succ] at c0 c1 c2
  have b3 : Below w2.heap.size w2 (w2.alloc (.cells #[.string s2, .int .i64 x2, .int .i64 y2] 29)) := by (repeat' (first | (with_reducible exact Below.refl _ _) | (with_reducible assumption) | (with_reducible refine below_drewN ?_ _) | (with_reducible refine Below.drew ?_) | (with_reducible refine below_alloc ?_ _) | (with_reducible refine Below.alloc ?_ ?_ _) | (with_reducible refine Below.setCell ?_ ?_ _) | (with_reducible refine below_go ?_ (by with_reducible assumption)) | (with_reducible refine below_then (by with_reducible assumption) ?_ ?_) | go_size))
  have B3 := below_go (below_go b0 hb2) b3
  rcases cu with _ | ⟨t, a, b⟩
  ·have e2 := Lib.hid (HJN.out HCU.out.symm)
   go_wp2
   go_ret
   rw [e2.out]
   exact ⟨rfl, B3⟩
  ·have e3 := HZ2.out _ rfl
   injection e3 with e3 e4
   injection e4 with e4 e5
   subst e3 e4 e5
   have e2 := Lib.hid (HJS.out t a b HCU.out.symm)
   obtain rfl : t = s := cut_fst s _ HCU.out.symm
   rw [show ((x == a) && (y == b)) = ((a == x) && (b == y)) by rw [Bool.eq_iff_iff, Bool.and_eq_true, Bool.and_eq_true, beq_iff_eq, beq_iff_eq, beq_iff_eq, beq_iff_eq, eq_comm, eq_comm (a := y)]] at e2
   by_cases h1 : a = x
   ·have i1 : (a == x) = true := beq_iff_eq.2 h1
    by_cases h2 : b = y
    ·have i2 : (b == y) = true := beq_iff_eq.2 h2
     have I1 := Lib.hid i1; have I2 := Lib.hid i2
     subst h1 h2
     clear i1 i2
     go_wp2
     go_ret
     rw [e2.out, I1.out, I2.out]
     exact ⟨rfl, B3⟩
    ·have i2 : (b == y) = false := beq_eq_false_iff_ne.2 h2
     have I1 := Lib.hid i1; have I2 := Lib.hid i2
     subst h1
     clear i1
     go_wp2
     go_ret
     rw [e2.out, I1.out, I2.out]
     exact ⟨rfl, B3⟩
   ·have i1 : (a == x) = false := beq_eq_false_iff_ne.2 h1
    have I1 := Lib.hid i1
    go_wp2
    go_ret
    rw [e2.out, I1.out]
    exact ⟨rfl, B3⟩
end Go.Proofs.YtidolgonmimicaaGreat
namespace Go.Proofs.YtidolgonmimicaaGreat
open Go.ChangeShapes Go.WideShapes Go.ChangeAt Go.RowKit Go.Deep
def allT : Nat → List ByteArray
 | 0 => [⟨#[]⟩]
 | n + 1 => (allT n).flatMap kids
def kidAt (p : ByteArray) (k : Nat) : ByteArray := p ++ (⟨#[98, 112, 115]⟩ : ByteArray).extract k (k + 1)
theorem kids_take (p : ByteArray) {k : Nat} (h : k < 3) : (kids p).take (k + 1) = (kids p).take k ++ [kidAt p k] := by
 have e0 : (⟨#[98, 112, 115]⟩ : ByteArray).extract 0 1 = lB := by decide
 have e1 : (⟨#[98, 112, 115]⟩ : ByteArray).extract 1 2 = lP := by decide
 have e2 : (⟨#[98, 112, 115]⟩ : ByteArray).extract 2 3 = lS := by decide
 rcases k with _ | _ | _ | k
 ·rw [kidAt, e0]; rfl
 ·rw [kidAt, e1]; rfl
 ·rw [kidAt, e2]; rfl
 ·omega
def atL (n : Nat) : List ByteArray := if inB (n : Int) 1 6 = true then allT n else []
end Go.Proofs.YtidolgonmimicaaGreat
namespace Go.Proofs.YtidolgonmimicaaGreat
open Go.ChangeShapes Go.WideShapes Go.ChangeAt Go.RowKit Go.Deep
def Cur (w : World) (p : Nat) (A : Option Addr) (n c a : Nat) : Prop := ∃ (k : Nat) (s : Int), Blk w p 87 [.slice A n c, .int .i64 k, .int .u64 s] ∧ k ≤ a ∧ 0 ≤ s ∧ s ≤ 18446744073709551615
def Src (w0 : World) (A : Option Addr) (n : Nat) : Prop := ∃ l : List Int, l.length = n ∧ n ≤ 9223372036854775807 ∧ (∀ x ∈ l, 0 ≤ x ∧ x ≤ 255) ∧ Recs byteE 1 w0 A l
theorem Cur.mono {w : World} {p : Nat} {A : Option Addr} {n c a b : Nat} (h : Cur w p A n c a) (hb : a ≤ b) : Cur w p A n c b := by
 obtain ⟨k, s, h1, h2, h3⟩ := h
 exact ⟨k, s, h1, by omega, h3⟩
theorem Cur.lt {w : World} {p : Nat} {A : Option Addr} {n c a : Nat} (h : Cur w p A n c a) : p < w.heap.size := by
 obtain ⟨k, s, h1, _⟩ := h
 exact h1.lt
theorem Cur.grown {w w' : World} {p : Nat} {A : Option Addr} {n c a : Nat} {row : Option Nat} (h : Cur w p A n c a) (hg : w.grownBy w' row) (hne : some p ≠ row) : Cur w' p A n c a := by
 obtain ⟨k, s, h1, h2⟩ := h
 exact ⟨k, s, h1.grown hg hne, h2⟩
theorem Cur.up {w w' : World} {p : Nat} {A : Option Addr} {n c a : Nat} (h : Cur w p A n c a) (hb : Below w.heap.size w w') : Cur w' p A n c a := h.grown (grown_of_below hb) (by simp)
theorem Recs.at_byte {w : World} {A : Option Addr} {l : List Int} {k : Nat} (h : Recs byteE 1 w A l) (hk : k < l.length) : ∃ b off x, A = some ⟨b, off, none⟩ ∧ b < w.heap.size ∧ l[k]? = some x ∧ w.cell? ⟨b, off + k, none⟩ = some (.int .u8 x) := by
 obtain ⟨b, off, hA, hb, hc⟩ := h.cells (by omega)
 obtain ⟨x, hx⟩ := some_of_lt hk
 exact ⟨b, off, x, hA, hb, hx, by simpa using hc k x 0 _ hx rfl⟩
theorem u64_bd (x : Int) : 0 ≤ IntKind.u64.wrap x ∧ IntKind.u64.wrap x ≤ 18446744073709551615 := by rw [IntKind.wrap_u64]; omega
theorem and255 {x : Int} (h0 : 0 ≤ x) (h1 : x ≤ 18446744073709551615) : 0 ≤ bits .and .u64 x 255 ∧ bits .and .u64 x 255 ≤ 255 := by
 obtain ⟨n, rfl⟩ := Int.eq_ofNat_of_zero_le h0
 have e : bits .and .u64 (n : Int) ((255 : Nat) : Int) = ((n &&& 255 : Nat) : Int) := bits_and_u64_nat n 255 (by omega) (by omega)
 have h := Nat.and_le_right (n := n) (m := 255)
 rw [show ((255 : Int)) = ((255 : Nat) : Int) from rfl, e]
 omega
set_option maxRecDepth 100000 in
theorem cur_next {A : Option Addr} {n c a p : Nat} {w0 w : World} (hS : Src w0 A n) (hb : Below w0.heap.size w0 w) (hp : w0.heap.size ≤ p) (hc : Cur w p A n c a) (ha : a ≤ 16777216) :
  Calls Tryz.prog 166 #[.pointer (some ⟨p, 0, none⟩)] w fun e w' => ∃ x : Int, e = .returned (.int .i64 x) ∧ 0 ≤ x ∧ x ≤ 255 ∧ Cur w' p A n c (a + 1) ∧ w.grownBy w' (some p) := by
 obtain ⟨l, rfl, hn, hlb, hR⟩ := hS
 obtain ⟨k, s, K, hk, s0, s1⟩ := hc
 have k0 := K.cell 0; have k1 := K.cell 1; have k2 := K.cell 2
 have f1 := K.frozen 1; have f2 := K.frozen 2
 simp only [List.getElem?_cons_zero, List.getElem?_cons_succ] at k0 k1 k2
 have HK := Lib.hid K
 clear K
 by_cases hlt : k < l.length
 ·have hI : (k : Int) < (l.length : Int) := by omega
  have hJ : (k : Int) + 1 ≤ (l.length : Int) := by omega
  obtain ⟨b, o, x, rfl, _, hx, hcx⟩ := (hR.below hb (Nat.le_refl _)).at_byte hlt
  have hxb := hlb x (List.mem_of_getElem? hx)
  have gx : IntKind.i64.wrap x = x := wrap_id (by omega)
  clear hx hR hlb
  go_in
  go_wp2
  go_quiet (fail)
  go_wp2
  go_quiet (fail)
  go_wp2
  go_quiet (fail)
  go_wp2
  go_ret
  refine ⟨_, rfl, hxb.1, hxb.2, ⟨k + 1, _, ((HK.out.drewN _).set_ 1 _).set_ 2 _, by omega, (u64_bd _).1, (u64_bd _).2⟩, ?_⟩
  exact grownBy_trans (grownBy_trans (grown_any (below_drewN (Below.refl _ _) _) _) (only_set _ (p := ⟨p, 1, none⟩) _)) (grownBy_trans (only_set _ (p := ⟨p, 2, none⟩) _) (grown_any (below_drewN (Below.refl _ _) _) _))
 ·have hI : ¬ (k : Int) < (l.length : Int) := by omega
  have hJ : ¬ (k : Int) + 1 ≤ (l.length : Int) := by omega
  clear hR hlb
  go_in
  go_wp2
  go_quiet (fail)
  go_wp2
  go_quiet (fail)
  go_wp2
  obtain ⟨T, hT⟩ : ∃ T, T = IntKind.u64.wrap (IntKind.u64.wrap (IntKind.u64.wrap (s * 6364136223846793005)) + 1442695040888963407) := ⟨_, rfl⟩
  have hTb : 0 ≤ T ∧ T ≤ 18446744073709551615 := by rw [hT]; exact u64_bd _
  rw [← hT]
  clear hT
  have hA := and255 (x := T / 1099511627776) (by omega) (by omega)
  obtain ⟨v, hv⟩ : ∃ v, v = bits BinOp.and IntKind.u64 (T / 1099511627776) 255 := ⟨_, rfl⟩
  rw [← hv] at hA ⊢
  clear hv
  have hwv : wrap64 v = v := by unfold wrap64; omega
  rw [hwv]
  clear hwv
  go_ret
  refine ⟨_, rfl, hA.1, hA.2, ⟨k + 1, _, ((HK.out.drewN _).set_ 1 _).set_ 2 _, by omega, hTb.1, hTb.2⟩, ?_⟩
  exact grownBy_trans (grownBy_trans (grown_any (below_drewN (Below.refl _ _) _) _) (only_set _ (p := ⟨p, 1, none⟩) _)) (grownBy_trans (only_set _ (p := ⟨p, 2, none⟩) _) (grown_any (below_drewN (Below.refl _ _) _) _))
theorem grown_below {w0 w w' : World} {p : Nat} (hb : Below w0.heap.size w0 w) (hp : w0.heap.size ≤ p) (hg : w.grownBy w' (some p)) : Below w0.heap.size w0 w' := hb.grown hg hb.size fun k hk => by injection hk with hk; omega
def upTo (n x : Int) : Prop := 0 ≤ x ∧ (x < n ∨ x = 0)
set_option maxRecDepth 100000 in
theorem cur_pick {A : Option Addr} {n c a p : Nat} {N : Int} {w0 w : World} (hS : Src w0 A n) (hb : Below w0.heap.size w0 w) (hp : w0.heap.size ≤ p) (hc : Cur w p A n c a) (ha : a ≤ 16777216) (hN : N ≤ 200) (hN0 : -1000 ≤ N) :
  Calls Tryz.prog 72 #[.pointer (some ⟨p, 0, none⟩), .int .i64 N] w fun e w' => ∃ x : Int, e = .returned (.int .i64 x) ∧ upTo N x ∧ Cur w' p A n c (a + 1) ∧ w.grownBy w' (some p) := by
 by_cases h1 : N ≤ 1
 ·go_in
  go_wp2
  go_ret
  exact ⟨0, rfl, ⟨Int.le_refl _, .inr rfl⟩, hc.mono (by omega), grown_any (Below.refl _ _) _⟩
 ·go_in
  go_wp2_with fail
  refine (cur_next hS hb hp hc ha).mono ?_; rintro e w1 ⟨x, rfl, x0, x1, hc1, hg1⟩
  have hm : x.tmod N = x % N := Int.tmod_eq_emod_of_nonneg x0
  have m0 := Int.emod_nonneg x (show N ≠ 0 by omega)
  have m1 := Int.emod_lt_of_pos x (show 0 < N by omega)
  have hN1 : ¬ N = 0 := by omega
  go_wp2
  go_ret
  exact ⟨_, rfl, ⟨by omega, .inl (by omega)⟩, hc1, hg1⟩
theorem cur_one {A : Option Addr} {n c a p : Nat} {N : Int} {w0 w : World} (hS : Src w0 A n) (hb : Below w0.heap.size w0 w) (hp : w0.heap.size ≤ p) (hc : Cur w p A n c a) (ha : a ≤ 16777216) (hN : N ≤ 200) (hN0 : -1000 ≤ N) :
  Calls Tryz.prog 95 #[.pointer (some ⟨p, 0, none⟩), .int .i64 N] w fun e w' => ∃ b : Bool, e = .returned (.bool b) ∧ Cur w' p A n c (a + 1) ∧ w.grownBy w' (some p) := by
 go_in
 go_wp2_with fail
 refine (cur_pick hS hb hp hc ha hN hN0).mono ?_; rintro e w1 ⟨x, rfl, _, hc1, hg1⟩
 go_wp2
 go_ret
 exact ⟨_, rfl, hc1, hg1⟩
theorem lit_ints (w : World) (t : TypeId) (l : List Int) : Ints (w.alloc (.cells ⟨l.map fun x => Value.int .i64 x⟩ t)) (some ⟨w.heap.size, 0, none⟩) l := by
 refine ⟨intE_len, by rw [flatMap_len intE_len], fun hn => ⟨w.heap.size, 0, rfl, by simp, fun j u hu => ?_⟩⟩
 have h := Box.new w (l.map fun x => Value.int .i64 x) t
 rw [Nat.zero_add]
 refine h j u ?_
 rw [← hu]
 congr 1
 exact (flatMap_one (fun x => Value.int .i64 x) l).symm
theorem cur_among {A B : Option Addr} {n c a p m d : Nat} {l : List Int} {w0 w : World} (hS : Src w0 A n) (hb : Below w0.heap.size w0 w) (hp : w0.heap.size ≤ p) (hc : Cur w p A n c a) (ha : a ≤ 16777216) (hm : l.length = m) (hl : Ints w B l) (hm0 : 0 < m) (hm1 : m ≤ 200) (hne : ∀ b o, B = some ⟨b, o, none⟩ → b ≠ p) :
  Calls Tryz.prog 149 #[.pointer (some ⟨p, 0, none⟩), .slice B m d] w fun e w' => ∃ x ∈ l, e = .returned (.int .i64 x) ∧ Cur w' p A n c (a + 1) ∧ w.grownBy w' (some p) := by
 subst hm
 go_in
 go_wp2_with fail
 refine (cur_pick hS hb hp hc ha (by omega) (by omega)).mono ?_; rintro e w1 ⟨x, rfl, ⟨x0, x1⟩, hc1, hg1⟩
 obtain ⟨k, rfl⟩ := Int.eq_ofNat_of_zero_le x0
 have hk : k < l.length := by omega
 obtain ⟨b, o, y, rfl, hbb, hy, hcy⟩ := hl.at_int hk
 have hcz : w1.cell? ⟨b, o + k, none⟩ = some (.int .i64 y) := (hg1.cell_far ⟨b, o + k, none⟩ hbb (fun e => hne b o rfl (by injection e))).trans hcy
 have HY := Lib.hid hy
 clear hy hl hcy x1
 go_wp2
 go_ret
 exact ⟨y, List.mem_of_getElem? HY.out, rfl, hc1, hg1⟩
end Go.Proofs.YtidolgonmimicaaGreat
namespace Go.Proofs.YtidolgonmimicaaGreat
open Go.ChangeShapes Go.WideShapes Go.ChangeAt Go.RowKit Go.Deep
theorem grow_own {w u v : World} {r row : Option Nat} (h : w.grownBy u r) (hg : u.grownBy v row) (hrow : ∀ k, row = some k → w.heap.size ≤ k) : w.grownBy v r :=
 ⟨hg.os.trans h.os, hg.tape.trans h.tape, hg.output.trans h.output, Nat.le_trans h.size hg.size, fun i hi hne => (hg.block i (Nat.lt_of_lt_of_le hi h.size) (fun e => by have := hrow i e.symm; omega)).trans (h.block i hi hne)⟩
structure TL (w wr : World) (p : Nat) (A1 : Option Addr) (n1 c1 : Nat) (l1 : List Int) (A2 : Option Addr) (n2 c2 : Nat) (l2 : List Int) : Prop where
 own1 : Owned intE 1 3 wr w.heap.size A1 n1 c1 l1
 own2 : Owned intE 1 3 wr w.heap.size A2 n2 c2 l2
 two : ∀ k, (Value.slice A1 n1 c1).ownBlock = some k → (Value.slice A2 n2 c2).ownBlock ≠ some k
 gr : w.grownBy wr (some p)
section
variable {w wr wv : World} {p : Nat} {A1 A2 A' : Option Addr} {n1 c1 n2 c2 c' : Nat} {l1 l2 : List Int} {x : Int}
theorem TL.grown (h : TL w wr p A1 n1 c1 l1 A2 n2 c2 l2) (hp : p < w.heap.size) (hg : wr.grownBy wv (some p)) : TL w wv p A1 n1 c1 l1 A2 n2 c2 l2 :=
 ⟨h.own1.kept hg (fun k hk e => by have := (h.own1.blk hk).1; injection e with e; omega), h.own2.kept hg (fun k hk e => by have := (h.own2.blk hk).1; injection e with e; omega), h.two, grownBy_trans h.gr hg⟩
theorem TL.alloc (h : TL w wr p A1 n1 c1 l1 A2 n2 c2 l2) (o : Obj) : TL w (wr.alloc o) p A1 n1 c1 l1 A2 n2 c2 l2 :=
 ⟨h.own1.alloc o, h.own2.alloc o, h.two, grownBy_trans h.gr (World.grownBy_alloc _ _ _)⟩
end
theorem Cur.app {wr wv : World} {p : Nat} {A B : Option Addr} {n c a m d base : Nat} {l : List Int} (h : Cur wr p A n c a) (ho : Owned intE 1 3 wr base B m d l) (hp : p < base) (hg : wr.grownBy wv (Value.slice B m d).ownBlock) : Cur wv p A n c a :=
 h.grown hg (fun e => by have := (ho.blk e.symm).1; omega)
end Go.Proofs.YtidolgonmimicaaGreat
namespace Go.Proofs.YtidolgonmimicaaGreat
open Go.ChangeShapes Go.WideShapes Go.ChangeAt Go.RowKit Go.Deep
theorem cur_fresh (w : World) (A : Option Addr) (n c : Nat) : Cur (w.alloc (.cells #[.slice A n c, .int .i64 0, .int .u64 0] 87)) w.heap.size A n c 0 :=
 ⟨0, 0, Blk.at_ w 87 [.slice A n c, .int .i64 0, .int .u64 0] rfl, Nat.le_refl _, by omega, by omega⟩
theorem Src.over {w w' : World} {A : Option Addr} {n : Nat} (h : Src w A n) (hb : Below w.heap.size w w') : Src w' A n := by
 obtain ⟨l, h1, h2, h3, h4⟩ := h
 exact ⟨l, h1, h2, h3, h4.up hb⟩
theorem chs_small {n : Nat} {L : List ByteArray} (hn : n ≤ 8) (h : L.Perm (chsRaw n)) : L.length ≤ 34 ∧ ∀ s ∈ L, s.size ≤ 8 := by
 constructor
 ·rw [h.length_eq, chsRaw]
  refine Nat.le_trans (List.length_filter_le _ _) ?_
  rw [List.length_map]; exact fromK_le hn 1
 ·intro s hs
  have h1 := (h.mem_iff).1 hs
  rw [chsRaw, List.mem_filter] at h1
  rcases q : sizeOk n s
  ·have := h1.2; rw [goodChange_size q] at this; cases this
  ·have := sizeOk_t q; omega
end Go.Proofs.YtidolgonmimicaaGreat
namespace Go.Proofs.YtidolgonmimicaaGreat
open Go.ChangeShapes Go.WideShapes Go.ChangeAt Go.RowKit Go.Deep
theorem lit_strs2 (w : World) (t : TypeId) (l : List ByteArray) : Strs (w.alloc (.cells ⟨l.map Value.string⟩ t)) (some ⟨w.heap.size, 0, none⟩) l := by
 refine ⟨strE_len, by rw [flatMap_len strE_len], fun hn => ⟨w.heap.size, 0, rfl, by simp, fun j u hu => ?_⟩⟩
 have h := Box.new w (l.map Value.string) t
 rw [Nat.zero_add]
 refine h j u ?_
 rw [← hu]
 congr 1
 exact (flatMap_one Value.string l).symm
theorem cur_of {A B : Option Addr} {n c a p m d : Nat} {l : List ByteArray} {w0 w : World} (hS : Src w0 A n) (hb : Below w0.heap.size w0 w) (hp : w0.heap.size ≤ p) (hc : Cur w p A n c a) (ha : a ≤ 16777216) (hm : l.length = m) (hl : Strs w B l) (hm0 : 0 < m) (hm1 : m ≤ 200) (hne : ∀ b o, B = some ⟨b, o, none⟩ → b ≠ p) :
  Calls Tryz.prog 71 #[.pointer (some ⟨p, 0, none⟩), .slice B m d] w fun e w' => ∃ x ∈ l, e = .returned (.string x) ∧ Cur w' p A n c (a + 1) ∧ w.grownBy w' (some p) := by
 subst hm
 go_in
 go_wp2_with fail
 refine (cur_pick hS hb hp hc ha (by omega) (by omega)).mono ?_; rintro e w1 ⟨x, rfl, ⟨x0, x1⟩, hc1, hg1⟩
 obtain ⟨k, rfl⟩ := Int.eq_ofNat_of_zero_le x0
 have hk : k < l.length := by omega
 obtain ⟨b, o, y, rfl, hbb, hy, hcy⟩ := hl.at_str hk
 have hcz : w1.cell? ⟨b, o + k, none⟩ = some (.string y) := (hg1.cell_far ⟨b, o + k, none⟩ hbb (fun e => hne b o rfl (by injection e))).trans hcy
 have HY := Lib.hid hy
 clear hy hl hcy x1
 go_wp2
 go_ret
 exact ⟨y, List.mem_of_getElem? HY.out, rfl, hc1, hg1⟩
theorem chsRaw_pos : ∀ n : Nat, n < 9 → 3 ≤ n → 1 ≤ (chsRaw n).length := by decide +kernel
set_option maxRecDepth 100000 in
theorem cur_change {A : Option Addr} {n c a p N : Nat} {w0 w : World} (hS : Src w0 A n) (hb : Below w0.heap.size w0 w) (hp : w0.heap.size ≤ p) (hc : Cur w p A n c a) (ha : a ≤ 16777216) (hN : N ≤ 8) (hN3 : 3 ≤ N) :
  Calls Tryz.prog 181 #[.pointer (some ⟨p, 0, none⟩), .int .i64 N] w fun e w' => ∃ x, e = .returned (.string x) ∧ goodChange N x = true ∧ x.size ≤ 8 ∧ Cur w' p A n c (a + 1) ∧ w.grownBy w' (some p) := by
 have hpw := hc.lt
 go_in
 go_wp2_with fail
 refine (spec_l2All hN).mono ?_; rintro e w1 ⟨A1, c1, L, rfl, ho1, hperm, hb1⟩
 have hsm := chs_small hN hperm
 have hlen := hsm.1
 have hpos : 1 ≤ L.length := by rw [hperm.length_eq]; exact chsRaw_pos N (by omega) hN3
 have HSM := Lib.hid hsm.2
 have HPM := Lib.hid (fun x (hx : x ∈ L) => show goodChange N x = true from by
  have h1 := (hperm.mem_iff).1 hx
  rw [chsRaw, List.mem_filter] at h1
  exact h1.2)
 clear hperm hsm
 go_wp2_with fail
 refine (cur_pick hS (grown_below hb hp (grown_any hb1 _)) hp (hc.up hb1) ha (by omega) (by omega)).mono ?_; rintro e w2 ⟨x, rfl, ⟨x0, x1⟩, hc2, hg2⟩
 obtain ⟨k, rfl⟩ := Int.eq_ofNat_of_zero_le x0
 have hk : k < L.length := by omega
 obtain ⟨b, o, y, rfl, hbb, hy, hcy⟩ := (ho1.past hg2 hpw).recs.at_str hk
 have HY := Lib.hid (List.mem_of_getElem? hy)
 clear hy x1
 go_wp2
 go_ret
 exact ⟨y, rfl, HPM.out y HY.out, HSM.out y HY.out, hc2, grownBy_trans (grown_any hb1 _) hg2⟩
theorem goodM_of {nm : ByteArray} {st : Nat} {L : List ByteArray} (h1 : nameOk nm = true) (h2 : 3 ≤ st) (h3 : st ≤ 8) (h4 : 1 ≤ L.length) (h5 : L.length ≤ 40) (h6 : ∀ x ∈ L, goodChange st x = true) : goodM nm st L = true := by
 have e1 : inB (st : Int) 3 8 = true := by simp [inB]; omega
 have e2 : inB (L.length : Int) 1 40 = true := by simp [inB]; omega
 have e3 : allCh st L = true := by
  rw [allCh, List.all_eq_true]
  intro k hk
  obtain ⟨x, hx⟩ := some_of_lt (List.mem_range.1 hk)
  rw [okCh_at hx]
  exact h6 x (List.mem_of_getElem? hx)
 rw [goodM, h1, e1, e2, e3]; rfl
theorem hunt_one : ∀ n : Nat, n < 9 → 3 ≤ n → n % 2 = 0 → goodChange n ⟨#[45]⟩ = true ∧ goodChange n (⟨#[49]⟩ ++ dig1 n) = true ∧ goodChange n ⟨#[49, 50]⟩ = true := by decide +kernel
theorem hunt_two : ∀ n : Nat, n < 9 → 5 ≤ n → n % 2 = 1 → goodChange n (dig1 n) = true ∧ goodChange n ⟨#[49]⟩ = true ∧ goodChange n (⟨#[49, 50]⟩ ++ dig1 n) = true := by decide +kernel
set_option maxHeartbeats 2000000 in
set_option maxRecDepth 100000 in
theorem spec_l4Hunting {N : Nat} {s : ByteArray} {w : World} (hN : N ≤ 8) (hN4 : 4 ≤ N) (hs : goodChange N s = true) :
  Calls Tryz.prog 223 #[.int .i64 N, .string s] w fun e w' => ∃ A' c' L, e = .returned (.slice A' (2 * N) c') ∧ Owned strE 1 9 w' w.heap.size A' (2 * N) c' L ∧ (∀ x ∈ L, goodChange N x = true) ∧ Below w.heap.size w w' := by
 have HS := Lib.hid hs
 have hd1 : (dig1 (N : Int)).size = 1 := rfl
 clear hs
 rcases Nat.mod_two_eq_zero_or_one N with hpar | hpar
 ·have HH := Lib.hid (hunt_one N (by omega) (by omega) hpar)
  have hI : ¬ ((N : Int) % 2 = 1) := by omega
  have hpe : ((N : Int) % 2 == 1) = false := by simpa using hI
  go_in
  go_wp2_with fail
  refine (spec_l1Num_1 (by omega) (by omega)).mono ?_; rintro e w1 ⟨rfl, hb1⟩
  go_wp2
  go_loopw [7, 8] (fun v i wr => ∃ (k : Nat) (A' : Option Addr) (c' : Nat) (O : List ByteArray), k ≤ N ∧ i = .int .i64 k ∧ v = .slice A' (2 * k) c' ∧ Hid (∀ x ∈ O, goodChange N x = true) ∧ Hid (Owned strE 1 9 wr w.heap.size A' (2 * k) c' O) ∧ Below w.heap.size w wr) (fun _ i _ => N - (intOf i).toNat)
  case atStart => exact ⟨0, none, 0, [], Nat.zero_le _, rfl, rfl, Lib.hid (fun s hs => by cases hs), Lib.hid (Owned.nil strE_len _ _ _), hb1⟩
  case round =>
   obtain ⟨k, A2, c2, O, hk, rfl, rfl, HZ, HO, hbr⟩ := hrel
   rename World => wr
   have hszr := hbr.size
   by_cases hlt : k < N
   ·have HG2 := Lib.hid (show ∀ x ∈ O ++ [⟨#[45]⟩, ⟨#[49]⟩ ++ dig1 N], goodChange N x = true from fun x hx => by
     rcases List.mem_append.1 hx with hx | hx
     ·exact HZ.out x hx
     ·simp only [List.mem_cons, List.not_mem_nil, or_false] at hx
      rcases hx with rfl | rfl
      ·exact HH.out.1
      ·exact HH.out.2.1)
    have hl2 := lit_strs2 wr 9 [⟨#[45]⟩, ⟨#[49]⟩ ++ dig1 N]
    go_wp2_with (first | (at_builtin; go_must ((refine wpList_append_recs Tryz.elStr strE_one rfl (.tmp 22) (.tmp 25) rfl rfl (HO.out.alloc _) rfl hl2 rfl ?_ (by decide) ?_ ?_; (focus (first | omega | (simp only [World.size_alloc]; done) | (simp only [World.size_alloc]; omega) | (simp; done) | (simp; omega))); (simp; omega); intro A3 c3 w6 ho6 hg6 hl6; have hb6 : Below w.heap.size w w6 := (hbr.alloc hszr _).trans (grown_base hg6 (by simp; omega) (fun z hz => (HO.out.range z hz).1))))))
    go_roundw
    case rel => exact ⟨k + 1, A3, c3, O ++ [⟨#[45]⟩, ⟨#[49]⟩ ++ dig1 N], by omega, by go_num, by go_num, HG2, Lib.hid ho6, hb6⟩
    case measure => simp [intOf]; omega
   ·obtain rfl : k = N := by omega
    obtain ⟨g, rfl, g0, g1, gc, gf⟩ := HO.out.at_ (by omega)
    have hOl := HO.out.len
    obtain ⟨y, hy⟩ := some_of_lt (l := O) (k := 2 * k - 1) (by omega)
    have c0 := gc (2 * k - 1) y 0 _ hy rfl
    have f0 := gf (2 * k - 1)
    simp only [Nat.mul_one, Nat.add_zero] at c0
    have pt := HO.out.put (k := 2 * k - 1) (j := 0) (x := s) (u := .string s) hy (by decide) rfl
    simp only [Nat.mul_one, Nat.add_zero] at pt
    have HPT := Lib.hid pt
    have HGS := Lib.hid (show ∀ x ∈ O.set (2 * k - 1) s, goodChange k x = true from fun x hx => by
     rcases List.mem_or_eq_of_mem_set hx with hx | hx
     ·exact HZ.out x hx
     ·rw [hx]; exact HS.out)
    have hJ : (2 : Int) * (k : Int) - 1 = ((2 * k - 1 : Nat) : Int) := by omega
    have hJ2 : ((2 * k : Nat) : Int) - 1 = ((2 * k - 1 : Nat) : Int) := by omega
    have hJ3 : ((2 * k - 1 : Nat) : Int) < ((2 * k : Nat) : Int) := by omega
    clear gc gf hy pt
    go_wp2
    go_ret
    exact ⟨_, _, O.set (2 * k - 1) s, rfl, HPT.out.1, HGS.out, hbr.grown HPT.out.2 hszr (fun z hz => by injection hz with hz; omega)⟩
 ·have HH := Lib.hid (hunt_two N (by omega) (by omega) hpar)
  have hI : (N : Int) % 2 = 1 := by omega
  have hpe : ((N : Int) % 2 == 1) = true := by simpa using hI
  go_in
  go_wp2_with fail
  refine (spec_l1Num_1 (by omega) (by omega)).mono ?_; rintro e w1 ⟨rfl, hb1⟩
  go_wp2_with fail
  refine (spec_l1Num_1 (by omega) (by omega)).mono ?_; rintro e w2 ⟨rfl, hb2⟩
  have hB2 := below_go hb1 hb2
  go_wp2
  go_loopw [7, 8] (fun v i wr => ∃ (k : Nat) (A' : Option Addr) (c' : Nat) (O : List ByteArray), k ≤ N ∧ i = .int .i64 k ∧ v = .slice A' (2 * k) c' ∧ Hid (∀ x ∈ O, goodChange N x = true) ∧ Hid (Owned strE 1 9 wr w.heap.size A' (2 * k) c' O) ∧ Below w.heap.size w wr) (fun _ i _ => N - (intOf i).toNat)
  case atStart => exact ⟨0, none, 0, [], Nat.zero_le _, rfl, rfl, Lib.hid (fun s hs => by cases hs), Lib.hid (Owned.nil strE_len _ _ _), hB2⟩
  case round =>
   obtain ⟨k, A2, c2, O, hk, rfl, rfl, HZ, HO, hbr⟩ := hrel
   rename World => wr
   have hszr := hbr.size
   by_cases hlt : k < N
   ·have HG2 := Lib.hid (show ∀ x ∈ O ++ [dig1 N, ⟨#[49]⟩], goodChange N x = true from fun x hx => by
     rcases List.mem_append.1 hx with hx | hx
     ·exact HZ.out x hx
     ·simp only [List.mem_cons, List.not_mem_nil, or_false] at hx
      rcases hx with rfl | rfl
      ·exact HH.out.1
      ·exact HH.out.2.1)
    have hl2 := lit_strs2 wr 9 [dig1 N, ⟨#[49]⟩]
    go_wp2_with (first | (at_builtin; go_must ((refine wpList_append_recs Tryz.elStr strE_one rfl (.tmp 22) (.tmp 25) rfl rfl (HO.out.alloc _) rfl hl2 rfl ?_ (by decide) ?_ ?_; (focus (first | omega | (simp only [World.size_alloc]; done) | (simp only [World.size_alloc]; omega) | (simp; done) | (simp; omega))); (simp; omega); intro A3 c3 w6 ho6 hg6 hl6; have hb6 : Below w.heap.size w w6 := (hbr.alloc hszr _).trans (grown_base hg6 (by simp; omega) (fun z hz => (HO.out.range z hz).1))))))
    go_roundw
    case rel => exact ⟨k + 1, A3, c3, O ++ [dig1 N, ⟨#[49]⟩], by omega, by go_num, by go_num, HG2, Lib.hid ho6, hb6⟩
    case measure => simp [intOf]; omega
   ·obtain rfl : k = N := by omega
    obtain ⟨g, rfl, g0, g1, gc, gf⟩ := HO.out.at_ (by omega)
    have hOl := HO.out.len
    obtain ⟨y, hy⟩ := some_of_lt (l := O) (k := 2 * k - 1) (by omega)
    have c0 := gc (2 * k - 1) y 0 _ hy rfl
    have f0 := gf (2 * k - 1)
    simp only [Nat.mul_one, Nat.add_zero] at c0
    have pt := HO.out.put (k := 2 * k - 1) (j := 0) (x := s) (u := .string s) hy (by decide) rfl
    simp only [Nat.mul_one, Nat.add_zero] at pt
    have HPT := Lib.hid pt
    have HGS := Lib.hid (show ∀ x ∈ O.set (2 * k - 1) s, goodChange k x = true from fun x hx => by
     rcases List.mem_or_eq_of_mem_set hx with hx | hx
     ·exact HZ.out x hx
     ·rw [hx]; exact HS.out)
    have hJ : (2 : Int) * (k : Int) - 1 = ((2 * k - 1 : Nat) : Int) := by omega
    have hJ2 : ((2 * k : Nat) : Int) - 1 = ((2 * k - 1 : Nat) : Int) := by omega
    have hJ3 : ((2 * k - 1 : Nat) : Int) < ((2 * k : Nat) : Int) := by omega
    clear gc gf hy pt
    go_wp2
    go_ret
    exact ⟨_, _, O.set (2 * k - 1) s, rfl, HPT.out.1, HGS.out, hbr.grown HPT.out.2 hszr (fun z hz => by injection hz with hz; omega)⟩
end Go.Proofs.YtidolgonmimicaaGreat
namespace Go.Proofs
open Go.Shelf
def Tryz.laysNm226_ren : Go.Shelf.Ren := ⟨fun | 26 => 206 | 33 => 232 | 34 => 233 | 38 => 255 | n => n, fun | 24 => 23 | 9 => 9 | 3 => 3 | 4 => 4 | 40 => 149 | 0 => 0 | n => n, fun | n => n⟩
end Go.Proofs
namespace Go.Proofs.YtidolgonmimicaaGreat
open Go.ChangeShapes Go.WideShapes Go.ChangeAt Go.RowKit Go.Deep
open Go.Maps (Keyed string_keyed)
open Go.WideMaps (keyOf_string_mk)
def keysS (L : List ByteArray) : List Value := (L.map strV).reverse
end Go.Proofs.YtidolgonmimicaaGreat
namespace Go.Proofs.YtidolgonmimicaaGreat
open Go.ChangeShapes Go.WideShapes Go.ChangeAt Go.RowKit Go.Deep
end Go.Proofs.YtidolgonmimicaaGreat
namespace Go.Proofs.YtidolgonmimicaaGreat
open Go.ChangeShapes Go.WideShapes Go.ChangeAt Go.RowKit Go.Deep
def IsOrd (n : Nat) (e : ByteArray) (m : Nat) : Prop := 1 ≤ m ∧ pwS n e m = roundsS n ∧ ∀ k, 1 ≤ k → k < m → pwS n e k ≠ roundsS n
theorem IsOrd.uniq {n m k : Nat} {e : ByteArray} (h : IsOrd n e m) (g : IsOrd n e k) : m = k := by
 rcases Nat.lt_trichotomy m k with q | q | q
 ·exact absurd h.2.1 (g.2.2 m h.1 q)
 ·exact q
 ·exact absurd g.2.1 (h.2.2 k g.1 q)
section
variable {n m : Nat} {e : ByteArray}
def cosL (n : Nat) (e : ByteArray) (m : Nat) (x : ByteArray) : List ByteArray := (pwL n e m).map fun p => timesS p x
def leastS (n : Nat) (e : ByteArray) (m : Nat) (x : ByteArray) : ByteArray := ((cosL n e m x).mergeSort leS).headD ByteArray.empty
def wholeL (n : Nat) (e : ByteArray) (m : Nat) (R : List ByteArray) : List ByteArray := (List.range m).flatMap fun j => R.map (timesS (pwS n e j))
end
section
variable {st : Nat} {l : List ByteArray} {b s u v : ByteArray}
def Again (u v : ByteArray) (m : Nat) : Prop := v.size = m * u.size ∧ ∀ j i, j < m → i < u.size → letter v (j * u.size + i) = letter u i
end
end Go.Proofs.YtidolgonmimicaaGreat
namespace Go.Proofs.YtidolgonmimicaaGreat
open Go.ChangeShapes Go.WideShapes Go.ChangeAt Go.RowKit Go.Deep
def teV (nm : ByteArray) (st : Nat) (l : List ByteArray) (kb ks t : ByteArray) : ByteArray := if goodF nm (st : Int) l kb ks t = true then hdAt st l kb ks t t.size else ⟨#[]⟩
end Go.Proofs.YtidolgonmimicaaGreat
namespace Go.Proofs.YtidolgonmimicaaGreat
open Go.ChangeShapes Go.WideShapes Go.ChangeAt Go.RowKit Go.Deep
def PaP (nm : ByteArray) (st : Nat) (l : List ByteArray) (kb ks t : ByteArray) (m : Nat) : Prop :=
 m ≤ 40320 ∧ (goodF nm (st : Int) l kb ks t = true → IsOrd st (hdAt st l kb ks t t.size) m) ∧ (goodF nm (st : Int) l kb ks t = false → m = 0)
theorem PaP.uniq {nm : ByteArray} {st : Nat} {l : List ByteArray} {kb ks t : ByteArray} {m k : Nat} (h : PaP nm st l kb ks t m) (g : PaP nm st l kb ks t k) : m = k := by
 rcases hg : goodF nm (st : Int) l kb ks t
 ·rw [h.2.2 hg, g.2.2 hg]
 ·exact (h.2.1 hg).uniq (g.2.1 hg)
end Go.Proofs.YtidolgonmimicaaGreat
namespace Go.Proofs.YtidolgonmimicaaGreat
open Go.ChangeShapes Go.WideShapes Go.ChangeAt Go.RowKit Go.Deep
theorem recs_grown12 {α : Type} {e : α → List Value} {s b o : Nat} {w w' : World} {l : List α} {row : Option Nat} (h : Recs e s w (some ⟨b, o, none⟩) l) (hg : w.grownBy w' row) (hne : some b ≠ row) : Recs e s w' (some ⟨b, o, none⟩) l := by
 refine ⟨h.1, h.2.1, fun hn => ?_⟩
 obtain ⟨b', o', hA, hb, hc⟩ := h.2.2 hn
 injection hA with hA
 injection hA with e1 e2 _
 subst e1 e2
 exact ⟨b, o, rfl, Nat.lt_of_lt_of_le hb hg.size, fun j u hu => (hg.cell_far ⟨b, o + j, none⟩ hb hne).trans (hc j u hu)⟩
end Go.Proofs.YtidolgonmimicaaGreat
namespace Go.Proofs.YtidolgonmimicaaGreat
open Go.ChangeShapes Go.WideShapes Go.ChangeAt Go.RowKit Go.Deep
end Go.Proofs.YtidolgonmimicaaGreat
namespace Go.Proofs.YtidolgonmimicaaGreat
open Go.ChangeShapes Go.WideShapes Go.ChangeAt Go.RowKit Go.Deep
theorem blkNe {α : Type} {e : α → List Value} {s : Nat} {E : TypeId} {w : World} {base : Nat} {A : Option Addr} {n c : Nat} {l : List α} {p : Nat} {t : TypeId} {cs : List Value} (h : Owned e s E w base A n c l) (k : Blk w p t cs) (hE : E ≠ t) : some p ≠ (Value.slice A n c).ownBlock := by
 intro e2
 rcases h.2.2.2 with ⟨hv, _⟩ | ⟨g, cap, cur, hv, _, hh, _⟩
 ·rw [hv] at e2; cases e2
 ·rw [hv] at e2
  injection e2 with e2
  subst e2
  have k' : w.heap[p]? = some (.cells ⟨cs⟩ t (0, 0)) := k
  rw [hh] at k'
  injection k' with k'
  injection k' with _ k' _
  exact hE k'
end Go.Proofs.YtidolgonmimicaaGreat
