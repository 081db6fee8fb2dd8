/- The walks through lists of changes between rows, truth by sorting, factorials, and extents. -/
import Derived.Test.YtmdmnjjlpefigaaW6s
import Derived.Test.YtmdmnjjlpefigaaW7b
import Derived.Test.YtmdmnjjlpefigaaW06
namespace Go.Proofs.Ytmdmnjjlpefigaa
set_option linter.unusedVariables false
set_option linter.unusedSimpArgs false
open Go.ChangeShapes Go.WideShapes Go.ChangeAt Go.RowKit Go.Deep
theorem fact_le : ∀ k, k < 9 → fact k ≤ 40320 := of_decide_eq_true (by kernel_rfl)
theorem fact_one {n : Nat} (h : n ≤ 1) : fact n = 1 := by
  rcases n with _ | _ | n
  · rfl
  · rfl
  · omega
theorem impl_factorial {n : Nat} {w : World} (hn : n ≤ 8) :
    Calls Try.prog 62 #[.int .i64 n] w fun e w' => e = .returned (.int .i64 (fact n)) ∧ w = w' := by
  have HF : Hid (∀ k, fact (k + 1) = (k + 1) * fact k) := Lib.hid (fun _ => rfl)
  go_in
  go_wp2
  go_loopw [3, 4] (fun v i wr => ∃ (k q : Nat), 1 ≤ k ∧ (k ≤ n ∨ k = 1) ∧ i = .int .i64 (k + 1 : Nat) ∧ v = .int .i64 q ∧ q ≤ 40320 ∧ Hid (q = fact k) ∧ w = wr) (fun _ i _ => n + 2 - (intOf i).toNat)
  case atStart => exact ⟨1, 1, Nat.le_refl _, .inr rfl, rfl, rfl, by omega, Lib.hid rfl, rfl⟩
  case round =>
    obtain ⟨k, q, hk1, hk, rfl, rfl, hq, HQ, rfl⟩ := hrel
    by_cases hlt : k + 1 ≤ n
    · have hI : (k : Int) + 1 ≤ (n : Int) := by omega
      have h2 := Lib.hid (show q * (k + 1) = fact (k + 1) by rw [HF.out, HQ.out, Nat.mul_comm])
      have h3 : q * (k + 1) ≤ 40320 := by rw [h2.out]; exact fact_le _ (by omega)
      have h4 : ((q : Int) * ((k : Int) + 1)) = ((q * (k + 1) : Nat) : Int) := by rw [Int.natCast_mul]; rfl
      have h5 : 0 ≤ (q : Int) * ((k : Int) + 1) ∧ (q : Int) * ((k : Int) + 1) ≤ 40320 := by rw [h4]; omega
      have H4 := Lib.hid h4
      obtain ⟨h6, h7⟩ := h5
      clear h4
      go_wp2
      go_roundw
      case rel => exact ⟨k + 1, q * (k + 1), by omega, by omega, by go_num, by rw [H4.out], h3, Lib.hid h2.out, trivial⟩
      case measure => simp [intOf]; omega
    · have hI : ¬ (k : Int) + 1 ≤ (n : Int) := by omega
      have e1 := Lib.hid (show q = fact n by
        rw [HQ.out]
        rcases hk with hk | hk
        · rw [show k = n by omega]
        · rw [hk, fact_one (by omega : n ≤ 1)]; rfl)
      go_wp2
      go_ret
      rw [← e1.out]
      exact ⟨rfl, rfl⟩
theorem spec_l1Fact {n : Nat} {w : World} (hn : n ≤ 8) :
    Calls Try.prog 57 #[.int .i64 n] w fun e w' => e = .returned (.int .i64 (fact n)) ∧ w = w' := by
  have HF : Hid (∀ k, fact (k + 1) = (k + 1) * fact k) := Lib.hid (fun _ => rfl)
  have hfn := fact_le n (by omega)
  go_in
  go_wp2
  go_loopw [0, 3] (fun i v wr => ∃ (k q : Nat), k ≤ n ∧ i = .int .i64 k ∧ v = .int .i64 q ∧ q ≤ 40320 ∧ Hid (q * fact k = fact n) ∧ w = wr) (fun i _ _ => (intOf i).toNat)
  case atStart => exact ⟨n, 1, Nat.le_refl _, rfl, rfl, by omega, Lib.hid (Nat.one_mul _), rfl⟩
  case round =>
    obtain ⟨k, q, hk, rfl, rfl, hq, HQ, rfl⟩ := hrel
    by_cases hlt : 1 < k
    · obtain ⟨m, rfl⟩ : ∃ m, k = m + 1 := ⟨k - 1, by omega⟩
      have hI : (1 : Int) < (m : Int) + 1 := by omega
      have h2 := Lib.hid (show q * (m + 1) * fact m = fact n by rw [Nat.mul_assoc, ← HF.out, HQ.out])
      have h3 : q * (m + 1) ≤ 40320 := Nat.le_trans (Nat.le_mul_of_pos_right _ (fact_pos m)) (by rw [h2.out]; exact hfn)
      have h4 : ((q : Int) * ((m : Int) + 1)) = ((q * (m + 1) : Nat) : Int) := by rw [Int.natCast_mul]; rfl
      have h5 : 0 ≤ (q : Int) * ((m : Int) + 1) ∧ (q : Int) * ((m : Int) + 1) ≤ 40320 := by rw [h4]; omega
      have H4 := Lib.hid h4
      obtain ⟨h6, h7⟩ := h5
      clear h4
      go_wp2
      go_roundw
      case rel => exact ⟨m, q * (m + 1), by omega, by first | go_num | rfl, by rw [H4.out], h3, Lib.hid h2.out, trivial⟩
      case measure => simp [intOf]
    · have hI : ¬ (1 : Int) < (k : Int) := by omega
      have e1 := Lib.hid (show q = fact n by rw [← HQ.out, fact_one (by omega : k ≤ 1), Nat.mul_one])
      go_wp2
      go_ret
      rw [← e1.out]
      exact ⟨rfl, rfl⟩
set_option maxRecDepth 100000 in
theorem spec_l7True {A : Option Addr} {N c : Nat} {l : List ByteArray} {w : World} (hN : l.length = N) (h : Strs w A l) (hz : N ≤ 16000000) (hs : ∀ s ∈ l, s.size ≤ 16777216) :
    Calls Try.prog 58 #[.slice A N c] w fun e w' => e = .returned (.bool (nodupB l)) ∧ Below w.heap.size w w' := by
  go_in
  go_wp2_with fail
  refine (spec_l6Sort N A c l w hN h hz hs).mono ?_; rintro e w1 ⟨A1, c1, L, rfl, ho, hp, hS, hb1⟩
  have HE := Lib.hid (show nodupB l = true ↔ ∀ k, 1 ≤ k → k < L.length → nextEq L k = false by
    rw [nodupB, decide_eq_true_iff, ← hp.nodup_iff]; exact srt_nodup hS)
  have hL := ho.len
  subst hL
  clear hp hS hN h hs
  go_wp2
  go_loopw [4] (fun i wr => ∃ k : Nat, 1 ≤ k ∧ (k ≤ L.length ∨ k = 1) ∧ i = .int .i64 k ∧ Hid (∀ j, 1 ≤ j → j < k → nextEq L j = false) ∧ Below w1.heap.size w1 wr) (fun i _ => L.length - (intOf i).toNat)
  case atStart => exact ⟨1, Nat.le_refl _, .inr rfl, rfl, Lib.hid (fun j h1 h2 => absurd h1 (by omega)), Below.refl _ _⟩
  case round =>
    obtain ⟨k, hk0, hk, rfl, HK, hb⟩ := hrel
    by_cases hlt : k < L.length
    · obtain ⟨q, rfl⟩ : ∃ q, k = q + 1 := ⟨k - 1, by omega⟩
      obtain ⟨b3, o3, y, rfl, _, hy, hcy⟩ := (ho.up hb).recs.at_str hlt
      obtain ⟨b4, o4, x, e, _, hx, hcx⟩ := (ho.up hb).recs.at_str (k := q) (by omega)
      injection e with e
      injection e with e1 e2
      subst e1 e2
      have HX := Lib.hid (nextEq_at (k := q + 1) hx hy)
      have hw1 := wrap_id (x := (q : Int) + 1 - 1) (by omega)
      have hw2 : (q : Int) + 1 - 1 = (q : Int) := by omega
      have hw3 := wrap_id (x := (q : Int)) (by omega)
      clear hx hy ho
      by_cases hxy : y = x
      · have e1 := Lib.hid (show nodupB l = false by
          rcases hq : nodupB l
          · rfl
          · have := HE.out.1 hq (q + 1) (by omega) hlt
            rw [HX.out, decide_eq_true hxy] at this; cases this)
        have e2 : (y.toList == x.toList) = true := by rw [hxy]; simp
        clear hxy
        go_wp2
        go_quiet (fail)
        clear hw1 hw2 hw3
        go_wp2
        go_ret
        rw [e1.out]
        exact ⟨rfl, by (repeat' (first | (with_reducible exact Below.refl _ _) | (with_reducible assumption) | (with_reducible refine below_drewN ?_ _) | (with_reducible refine Below.drew ?_) | (with_reducible refine below_alloc ?_ _) | (with_reducible refine Below.alloc ?_ ?_ _) | (with_reducible refine Below.setCell ?_ ?_ _) | (with_reducible refine below_go ?_ (by with_reducible assumption)) | (with_reducible refine below_then (by with_reducible assumption) ?_ ?_) | go_size))⟩
      · have e2 : (y.toList == x.toList) = false := by
          rw [beq_eq_false_iff_ne]; exact fun q => hxy (toList_inj q)
        have HN := Lib.hid (show nextEq L (q + 1) = false by rw [HX.out, decide_eq_false hxy])
        clear hxy
        go_wp2
        go_quiet (fail)
        clear hw1 hw2 hw3
        go_wp2
        go_roundw
        case rel => exact ⟨q + 2, by omega, by omega, by go_num, Lib.hid (fun j h1 h2 => by
          rcases Nat.lt_succ_iff_lt_or_eq.1 h2 with h | rfl
          · exact HK.out j h1 h
          · exact HN.out), by (repeat' (first | (with_reducible exact Below.refl _ _) | (with_reducible assumption) | (with_reducible refine below_drewN ?_ _) | (with_reducible refine Below.drew ?_) | (with_reducible refine below_alloc ?_ _) | (with_reducible refine Below.alloc ?_ ?_ _) | (with_reducible refine Below.setCell ?_ ?_ _) | (with_reducible refine below_go ?_ (by with_reducible assumption)) | (with_reducible refine below_then (by with_reducible assumption) ?_ ?_) | go_size))⟩
        case measure => simp [intOf]; omega
    · have e1 := Lib.hid (show nodupB l = true from HE.out.2 (fun j h1 h2 => HK.out j h1 (by omega)))
      go_wp2
      go_ret
      rw [e1.out]
      exact ⟨rfl, below_go hb1 hb⟩
/-- Row k of a list of rows, cyclically. -/
def cyc (l : List ByteArray) (k : Nat) : ByteArray := l.getD (k % l.length) ByteArray.empty
def nextAt (l : List ByteArray) (k : Nat) : Bool := btwB (cyc l k) (cyc l (k + 1))
def nextsB (l : List ByteArray) : Bool := (List.range l.length).all (nextAt l)
theorem cyc_at {l : List ByteArray} {k : Nat} {x : ByteArray} (h : l[k]? = some x) : cyc l k = x := by
  have := (List.getElem?_eq_some_iff.1 h).1
  rw [cyc, Nat.mod_eq_of_lt this, List.getD, h]; rfl
theorem cyc_last {l : List ByteArray} {x : ByteArray} (h : l[0]? = some x) : cyc l l.length = x := by
  rw [cyc, Nat.mod_self, List.getD, h]; rfl
theorem btw_self (a : ByteArray) : ∀ (k i : Nat) (sw : Bool), btwK a a k i sw = sw
  | 0, _, _ => by rw [btwK]
  | k + 1, i, sw => by rw [btw_eq rfl, btw_self a k]
theorem nexts_one {l : List ByteArray} (h : l.length = 1) : nextsB l = false := by
  match l, h with
  | [x], _ =>
    show (List.all [0] (nextAt [x])) = false
    simp [nextAt, cyc, btwB, btw_self]
theorem goodRows_size {l : List ByteArray} (h : goodRows l = true) {i j : Nat} {x y : ByteArray} (hx : l[i]? = some x) (hy : l[j]? = some y) : x.size = y.size := by
  rw [goodRows, Bool.and_eq_true, List.all_eq_true] at h
  have key : ∀ (k : Nat) (z : ByteArray), l[k]? = some z → z.size = (l.getD 0 ByteArray.empty).size := fun k z hz => by
    have := h.1 k (List.mem_range.2 (List.getElem?_eq_some_iff.1 hz).1)
    rw [okRow, Bool.and_eq_true, List.getD, hz] at this
    simpa using this.2
  rw [key i x hx, key j y hy]
set_option maxHeartbeats 1000000 in
set_option maxRecDepth 100000 in
theorem impl_changesIn {A : Option Addr} {N c : Nat} {l : List ByteArray} {w : World} (hN : l.length = N) (h : Strs w A l) (hz : 0 < N) (hg : goodRows l = true) :
    Calls Try.prog 60 #[.slice A N c] w fun e w' => ∃ A' m c', e = .returned (.tuple #[.slice A' m c', .bool (nextsB l)]) ∧ Below w.heap.size w w' := by
  subst hN
  have h8 := goodRows_len hg
  have HG := Lib.hid (goodRows_mem hg)
  have HZ := Lib.hid (fun (i j : Nat) (x y : ByteArray) (hx : l[i]? = some x) (hy : l[j]? = some y) => goodRows_size hg hx hy)
  have HQ : Hid (nextsB l = (List.range l.length).all (nextAt l)) := Lib.hid rfl
  clear hg
  by_cases h1 : l.length < 2
  · have e1 := Lib.hid (nexts_one (l := l) (by omega))
    go_in
    go_wp2
    go_ret2
    rw [e1.out]
    exact ⟨_, _, _, rfl, Below.refl _ _⟩
  · go_in
    go_wp2
    go_loopw [4, 15] (fun v i wr => ∃ (k : Nat) (A' : Option Addr) (c' : Nat) (M : List ByteArray), k ≤ l.length ∧ i = .int .i64 k ∧ v = .slice A' k c' ∧ Hid (∀ j, j < k → nextAt l j = true) ∧ Hid (Owned strE 1 9 wr w.heap.size A' k c' M) ∧ Below w.heap.size w wr) (fun _ i _ => l.length - (intOf i).toNat)
    case atStart => exact ⟨0, _, _, [], Nat.zero_le _, rfl, rfl, Lib.hid (fun j hj => absurd hj (by omega)), Lib.hid (Owned.empty strE_len _ _ (Nat.le_refl _)), by (repeat' (first | (with_reducible exact Below.refl _ _) | (with_reducible assumption) | (with_reducible refine below_drewN ?_ _) | (with_reducible refine Below.drew ?_) | (with_reducible refine below_alloc ?_ _) | (with_reducible refine Below.alloc ?_ ?_ _) | (with_reducible refine Below.setCell ?_ ?_ _) | (with_reducible refine below_go ?_ (by with_reducible assumption)) | (with_reducible refine below_then (by with_reducible assumption) ?_ ?_) | go_size))⟩
    case round =>
      obtain ⟨k, A', c', M, hk, rfl, rfl, HK, HO, hb⟩ := hrel
      have hsz := hb.size
      by_cases hlt : k < l.length
      · obtain ⟨b3, o3, x, rfl, hbb, hx, hcx⟩ := (h.below hb (Nat.le_refl _)).at_str hlt
        have hxg := HG.out x (List.mem_of_getElem? hx)
        have hxn := goodRow_n hxg
        obtain ⟨q, hq1, hq2⟩ : ∃ q, q < l.length ∧ (((k : Int) + 1) % (l.length : Int) = (q : Int) ∧ cyc l (k + 1) = l.getD q ByteArray.empty) := by
          refine ⟨(k + 1) % l.length, Nat.mod_lt _ (by omega), ?_, rfl⟩
          rw [Int.natCast_emod]; rfl
        obtain ⟨b4, o4, y, e, _, hy, hcy⟩ := (h.below hb (Nat.le_refl _)).at_str hq1
        injection e with e
        injection e with e1 e2
        subst e1 e2
        have hyg := HG.out y (List.mem_of_getElem? hy)
        have hsy := HZ.out k q x y hx hy
        have E := Lib.hid (show nextAt l k = btwB x y by rw [nextAt, cyc_at hx, hq2.2, List.getD, hy]; rfl)
        have hm := hq2.1
        have hm2 : ((k : Int) + 1).tmod (l.length : Int) = (q : Int) := by rw [Int.tmod_eq_emod_of_nonneg (by omega)]; exact hm
        have HC := Lib.hid (fun (u : World) => impl_between (a := x) (b := y) (n := x.size) (w := u) rfl hsy.symm hxn.2)
        clear hx hy h hq2 hsy
        go_wp2_with fail
        refine (HC.out _).mono ?_; rintro e w3 ⟨s, rfl, hs, hb3⟩
        clear hm hm2
        rcases hbt : btwB x y
        · have e1 := Lib.hid (show nextsB l = false by rw [HQ.out]; exact all_no hlt (by rw [E.out, hbt]))
          go_wp2
          go_ret2
          rw [e1.out]
          exact ⟨_, _, _, rfl, below_go hb hb3⟩
        · have e1 := Lib.hid (show nextAt l k = true by rw [E.out, hbt])
          have HO3 := Lib.hid (HO.out.up hb3)
          have hsz3 := hb3.size
          have hbt3 := below_go hb hb3
          go_wp2_with (first | (at_builtin; go_must ((refine wpList_append_rec Try.elStr rfl (.tmp 35) (.tmp 37) rfl rfl (HO3.out.alloc _) s rfl (Box.at_ _ [.string s] _ ?_) (strE_one _) ?_ (by decide) ?_ ?_; (focus (first | omega | (simp only [World.size_alloc]; done) | (simp only [World.size_alloc]; omega) | (simp; done) | (simp; omega))); (focus (first | omega | (simp only [World.size_alloc]; done) | (simp only [World.size_alloc]; omega) | (simp; done) | (simp; omega))); (focus (first | omega | (simp only [World.size_alloc]; done) | (simp only [World.size_alloc]; omega) | (simp; done) | (simp; omega))); intro A4 c4 w4 ho4 hg4 hb4))))
          go_roundw
          case rel => exact ⟨k + 1, A4, c4, _, by omega, by go_num, by go_num, Lib.hid (upto_succ HK.out e1.out), Lib.hid ho4, (hbt3.alloc (by omega) _).trans hb4⟩
          case measure => simp [intOf]; omega
      · obtain rfl : k = l.length := by omega
        have e1 := Lib.hid (show nextsB l = true by rw [HQ.out]; exact all_yes (fun j hj => HK.out j hj))
        go_wp2
        go_ret2
        rw [e1.out]
        exact ⟨_, _, _, rfl, hb⟩
set_option maxHeartbeats 1000000 in
set_option maxRecDepth 100000 in
theorem spec_l7Changes {A : Option Addr} {N c : Nat} {l : List ByteArray} {w : World} (hN : l.length = N) (h : Strs w A l) (hz : 0 < N) (hg : goodRows l = true) :
    Calls Try.prog 56 #[.slice A N c] w fun e w' => ∃ A' m c', e = .returned (.tuple #[.slice A' m c', .bool (nextsB l)]) ∧ Below w.heap.size w w' := by
  subst hN
  have h8 := goodRows_len hg
  have HG := Lib.hid (goodRows_mem hg)
  have HZ := Lib.hid (fun (i j : Nat) (x y : ByteArray) (hx : l[i]? = some x) (hy : l[j]? = some y) => goodRows_size hg hx hy)
  have HQ : Hid (nextsB l = (List.range l.length).all (nextAt l)) := Lib.hid rfl
  clear hg
  go_in
  go_wp2
  go_loopw [4, 11] (fun v i wr => ∃ (k : Nat) (A' : Option Addr) (c' : Nat) (M : List ByteArray), k ≤ l.length ∧ i = .int .i64 k ∧ v = .slice A' k c' ∧ Hid (∀ j, j < k → nextAt l j = true) ∧ Hid (Owned strE 1 9 wr w.heap.size A' k c' M) ∧ Below w.heap.size w wr) (fun _ i _ => l.length - (intOf i).toNat)
  case atStart => exact ⟨0, _, _, [], Nat.zero_le _, rfl, rfl, Lib.hid (fun j hj => absurd hj (by omega)), Lib.hid (Owned.nil strE_len _ _ _), Below.refl _ _⟩
  case round =>
    obtain ⟨k, A', c', M, hk, rfl, rfl, HK, HO, hb⟩ := hrel
    have hsz := hb.size
    by_cases hlt : k < l.length
    · obtain ⟨b3, o3, x, rfl, hbb, hx, hcx⟩ := (h.below hb (Nat.le_refl _)).at_str hlt
      have hxg := HG.out x (List.mem_of_getElem? hx)
      have hxn := goodRow_n hxg
      obtain ⟨q, hq1, hq2⟩ : ∃ q, q < l.length ∧ (((k : Int) + 1) % (l.length : Int) = (q : Int) ∧ cyc l (k + 1) = l.getD q ByteArray.empty) := by
        refine ⟨(k + 1) % l.length, Nat.mod_lt _ (by omega), ?_, rfl⟩
        rw [Int.natCast_emod]; rfl
      obtain ⟨b4, o4, y, e, _, hy, hcy⟩ := (h.below hb (Nat.le_refl _)).at_str hq1
      injection e with e
      injection e with e1 e2
      subst e1 e2
      have hyg := HG.out y (List.mem_of_getElem? hy)
      have hsy := HZ.out k q x y hx hy
      have E := Lib.hid (show nextAt l k = btwB x y by rw [nextAt, cyc_at hx, hq2.2, List.getD, hy]; rfl)
      have hm := hq2.1
      have hm2 : ((k : Int) + 1).tmod (l.length : Int) = (q : Int) := by rw [Int.tmod_eq_emod_of_nonneg (by omega)]; exact hm
      have HC := Lib.hid (fun (u : World) => spec_BetweenRows (a := x) (b := y) (w := u) hxg hyg hsy)
      clear hx hy h hq2 hsy
      go_wp2_with fail
      refine (HC.out _).mono ?_; rintro e w3 ⟨s, rfl, hs, hb3⟩
      clear hm hm2
      rcases hbt : btwB x y
      · have e1 := Lib.hid (show nextsB l = false by rw [HQ.out]; exact all_no hlt (by rw [E.out, hbt]))
        go_wp2
        go_ret2
        rw [e1.out]
        exact ⟨_, _, _, rfl, below_go hb hb3⟩
      · have e1 := Lib.hid (show nextAt l k = true by rw [E.out, hbt])
        have HO3 := Lib.hid (HO.out.up hb3)
        have hsz3 := hb3.size
        have hbt3 := below_go hb hb3
        go_wp2_with (first | (at_builtin; go_must ((refine wpList_append_rec Try.elStr rfl (.tmp 31) (.tmp 33) rfl rfl (HO3.out.alloc _) s rfl (Box.at_ _ [.string s] _ ?_) (strE_one _) ?_ (by decide) ?_ ?_; (focus (first | omega | (simp only [World.size_alloc]; done) | (simp only [World.size_alloc]; omega) | (simp; done) | (simp; omega))); (focus (first | omega | (simp only [World.size_alloc]; done) | (simp only [World.size_alloc]; omega) | (simp; done) | (simp; omega))); (focus (first | omega | (simp only [World.size_alloc]; done) | (simp only [World.size_alloc]; omega) | (simp; done) | (simp; omega))); intro A4 c4 w4 ho4 hg4 hb4))))
        go_roundw
        case rel => exact ⟨k + 1, A4, c4, _, by omega, by go_num, by go_num, Lib.hid (upto_succ HK.out e1.out), Lib.hid ho4, (hbt3.alloc (by omega) _).trans hb4⟩
        case measure => simp [intOf]; omega
    · obtain rfl : k = l.length := by omega
      have e1 := Lib.hid (show nextsB l = true by rw [HQ.out]; exact all_yes (fun j hj => HK.out j hj))
      have hI : (0 : Int) < (l.length : Int) := by omega
      go_wp2
      go_ret2
      rw [e1.out]
      exact ⟨A', l.length, c', by simp [hz], hb⟩
/-! extents -/
def smallR (l : List ByteArray) : Bool := goodRows l && (decide (0 < l.length) && decide ((l.getD 0 ByteArray.empty).size ≤ 6))
def extR (l : List ByteArray) : Bool := smallR l && (nextsB l && (nodupB l && (l.length == fact (l.getD 0 ByteArray.empty).size)))
theorem impl_countable {A : Option Addr} {N c : Nat} {l : List ByteArray} {w : World} (hN : l.length = N) (h : Strs w A l) (hz : N ≤ 16000000) (hs : ∀ s ∈ l, s.size ≤ 16777216) :
    Calls Try.prog 59 #[.slice A N c] w fun e w' => e = .returned (.bool (smallR l)) ∧ w = w' := by
  subst hN
  have E : Hid (smallR l = (goodRows l && (decide (0 < l.length) && decide ((l.getD 0 ByteArray.empty).size ≤ 6)))) := Lib.hid rfl
  rcases hg : goodRows l
  · have e1 := Lib.hid (show smallR l = false by rw [E.out, hg]; rfl)
    go_in
    go_wp2_with fail
    refine (impl_GoodRows rfl h (by omega) hs).mono ?_; rw [hg]; rintro e w' ⟨rfl, rfl⟩
    go_wp2
    go_ret
    rw [e1.out]
    exact ⟨rfl, rfl⟩
  · by_cases h0 : 0 < l.length
    · obtain ⟨b, o, x, rfl, _, hx, hc⟩ := h.at_str (k := 0) h0
      have e1 := Lib.hid (show smallR l = decide (x.size ≤ 6) by rw [E.out, hg, decide_eq_true h0, List.getD, hx]; rfl)
      simp only [Nat.add_zero] at hc
      clear hx
      go_in
      go_wp2_with fail
      refine (impl_GoodRows rfl h (by omega) hs).mono ?_; rw [hg]; rintro e w' ⟨rfl, rfl⟩
      go_wp2
      go_ret
      exact ⟨ret_bool (by rw [e1.out]; exact decide_eq_decide.2 (by omega)), rfl⟩
    · have e1 := Lib.hid (show smallR l = false by rw [E.out, hg, decide_eq_false h0]; rfl)
      have hI : ¬ (0 : Int) < (l.length : Int) := by omega
      go_in
      go_wp2_with fail
      refine (impl_GoodRows rfl h (by omega) hs).mono ?_; rw [hg]; rintro e w' ⟨rfl, rfl⟩
      go_wp2
      go_ret
      rw [e1.out]
      exact ⟨rfl, rfl⟩
theorem spec_l7Small {A : Option Addr} {N c : Nat} {l : List ByteArray} {w : World} (hN : l.length = N) (h : Strs w A l) (hz : N ≤ 16000000) (hs : ∀ s ∈ l, s.size ≤ 16777216) :
    Calls Try.prog 55 #[.slice A N c] w fun e w' => e = .returned (.bool (smallR l)) ∧ Below w.heap.size w w' := by
  subst hN
  have E : Hid (smallR l = (goodRows l && (decide (0 < l.length) && decide ((l.getD 0 ByteArray.empty).size ≤ 6)))) := Lib.hid rfl
  rcases hg : goodRows l
  · have e1 := Lib.hid (show smallR l = false by rw [E.out, hg]; rfl)
    go_in
    go_wp2_with fail
    refine (spec_l6Rows rfl h (by omega) hs).mono ?_; rw [hg]; rintro e w1 ⟨rfl, hb1⟩
    go_wp2
    go_ret
    rw [e1.out]
    exact ⟨rfl, hb1⟩
  · by_cases h0 : 0 < l.length
    · obtain ⟨b, o, x, rfl, hbb, hx, hc⟩ := h.at_str (k := 0) h0
      have e1 := Lib.hid (show smallR l = decide (x.size ≤ 6) by rw [E.out, hg, decide_eq_true h0, List.getD, hx]; rfl)
      simp only [Nat.add_zero] at hc
      clear hx
      go_in
      go_wp2_with fail
      refine (spec_l6Rows rfl h (by omega) hs).mono ?_; rw [hg]; rintro e w1 ⟨rfl, hb1⟩
      have hc1 := (hb1.cell (p := ⟨b, o, none⟩) hbb).trans hc
      go_wp2
      go_ret
      exact ⟨ret_bool (by rw [e1.out]; exact decide_eq_decide.2 (by omega)), hb1⟩
    · have e1 := Lib.hid (show smallR l = false by rw [E.out, hg, decide_eq_false h0]; rfl)
      have hI : ¬ (0 : Int) < (l.length : Int) := by omega
      go_in
      go_wp2_with fail
      refine (spec_l6Rows rfl h (by omega) hs).mono ?_; rw [hg]; rintro e w1 ⟨rfl, hb1⟩
      go_wp2
      go_ret
      rw [e1.out]
      exact ⟨rfl, hb1⟩
theorem small_t {l : List ByteArray} (h : smallR l = true) : goodRows l = true ∧ 0 < l.length ∧ ∀ x, l[0]? = some x → x.size ≤ 6 := by
  simp only [smallR, Bool.and_eq_true, decide_eq_true_eq] at h
  exact ⟨h.1, h.2.1, fun x hx => by have := h.2.2; rw [List.getD, hx] at this; exact this⟩
set_option maxHeartbeats 1000000 in
theorem impl_IsExtent {A : Option Addr} {N c : Nat} {l : List ByteArray} {w : World} (hN : l.length = N) (h : Strs w A l) (hz : N ≤ 16000000) (hs : ∀ s ∈ l, s.size ≤ 16777216) :
    Calls Try.prog 17 #[.slice A N c] w fun e w' => e = .returned (.tuple #[.bool (extR l), .bool (smallR l)]) ∧ Below w.heap.size w w' := by
  subst hN
  have E : Hid (extR l = (smallR l && (nextsB l && (nodupB l && (l.length == fact (l.getD 0 ByteArray.empty).size))))) := Lib.hid rfl
  rcases hS : smallR l
  · have e1 := Lib.hid (show extR l = false by rw [E.out, hS]; rfl)
    go_in
    go_wp2_with fail
    refine (impl_countable rfl h hz hs).mono ?_; rw [hS]; rintro e w' ⟨rfl, rfl⟩
    go_wp2
    go_ret2
    rw [e1.out]
    exact ⟨rfl, Below.refl _ _⟩
  · obtain ⟨hg, h0, h6⟩ := small_t hS
    obtain ⟨b, o, x, e0, hbb, hx, hc⟩ := h.at_str (k := 0) h0
    subst e0
    have hx6 := h6 x hx
    simp only [Nat.add_zero] at hc
    have e1 := Lib.hid (show extR l = (nextsB l && (nodupB l && (l.length == fact x.size))) by rw [E.out, hS, List.getD, hx]; rfl)
    have HG := Lib.hid hg
    have hsz := Lib.hid hs
    clear hg h6 hx hs
    go_in
    go_wp2_with fail
    refine (impl_countable rfl h hz hsz.out).mono ?_; rw [hS]; rintro e w' ⟨rfl, rfl⟩
    go_wp2_with fail
    refine (impl_changesIn rfl h h0 HG.out).mono ?_; rintro e w1 ⟨A1, m1, c1, rfl, hb1⟩
    have hc1 := (hb1.cell (p := ⟨b, o, none⟩) hbb).trans hc
    rcases hn : nextsB l
    · have e2 := Lib.hid (show extR l = false by rw [e1.out, hn]; rfl)
      go_wp2
      go_ret2
      rw [e2.out]
      exact ⟨rfl, hb1⟩
    · go_wp2_with fail
      refine (impl_isTrue rfl (h.up hb1) hz hsz.out).mono ?_; rintro e w2 ⟨rfl, hb2⟩
      have hc2 := (hb2.cell (p := ⟨b, o, none⟩) (by have := hb1.size; show b < w1.heap.size; omega)).trans hc1
      rcases hd : nodupB l
      · have e2 := Lib.hid (show extR l = false by rw [e1.out, hn, hd]; rfl)
        go_wp2
        go_ret2
        rw [e2.out]
        exact ⟨rfl, below_go hb1 hb2⟩
      · have e2 := Lib.hid (show extR l = (l.length == fact x.size) by rw [e1.out, hn, hd]; rfl)
        go_wp2_with fail
        refine (impl_factorial (by omega)).mono ?_; rintro e w' ⟨rfl, rfl⟩
        rcases hf : (l.length == fact x.size)
        · have hI : ((l.length : Int) == (fact x.size : Int)) = false := by
            rw [beq_eq_false_iff_ne] at hf ⊢; omega
          have e3 := Lib.hid (e2.out.trans hf)
          clear hf
          go_wp2
          go_ret2
          rw [e3.out]
          exact ⟨rfl, below_go hb1 hb2⟩
        · have hI : ((l.length : Int) == (fact x.size : Int)) = true := by
            rw [beq_iff_eq] at hf ⊢; omega
          have e3 := Lib.hid (e2.out.trans hf)
          clear hf
          go_wp2
          go_ret2
          rw [e3.out]
          exact ⟨rfl, below_go hb1 hb2⟩
set_option maxHeartbeats 1000000 in
theorem spec_IsExtent {A : Option Addr} {N c : Nat} {l : List ByteArray} {w : World} (hN : l.length = N) (h : Strs w A l) (hz : N ≤ 16000000) (hs : ∀ s ∈ l, s.size ≤ 16777216) :
    Calls Try.prog 15 #[.slice A N c] w fun e w' => e = .returned (.tuple #[.bool (extR l), .bool (smallR l)]) ∧ Below w.heap.size w w' := by
  subst hN
  have E : Hid (extR l = (smallR l && (nextsB l && (nodupB l && (l.length == fact (l.getD 0 ByteArray.empty).size))))) := Lib.hid rfl
  rcases hS : smallR l
  · have e1 := Lib.hid (show extR l = false by rw [E.out, hS]; rfl)
    go_in
    go_wp2_with fail
    refine (spec_l7Small rfl h hz hs).mono ?_; rw [hS]; rintro e w1 ⟨rfl, hb1⟩
    go_wp2
    go_ret2
    rw [e1.out]
    exact ⟨rfl, hb1⟩
  · obtain ⟨hg, h0, h6⟩ := small_t hS
    obtain ⟨b, o, x, e0, hbb, hx, hc⟩ := h.at_str (k := 0) h0
    subst e0
    have hx6 := h6 x hx
    simp only [Nat.add_zero] at hc
    have e1 := Lib.hid (show extR l = (nextsB l && (nodupB l && (l.length == fact x.size))) by rw [E.out, hS, List.getD, hx]; rfl)
    have HG := Lib.hid hg
    have hsz := Lib.hid hs
    clear hg h6 hx hs
    go_in
    go_wp2_with fail
    refine (spec_l7Small rfl h hz hsz.out).mono ?_; rw [hS]; rintro e w0 ⟨rfl, hb0⟩
    have hbb0 : b < w0.heap.size := by have := hb0.size; omega
    have hc0 := (hb0.cell (p := ⟨b, o, none⟩) hbb).trans hc
    go_wp2_with fail
    refine (spec_l7Changes rfl (h.up hb0) h0 HG.out).mono ?_; rintro e w1 ⟨A1, m1, c1, rfl, hb1⟩
    have hB1 := below_go hb0 hb1
    have hc1 := (hb1.cell (p := ⟨b, o, none⟩) hbb0).trans hc0
    go_wp2_with fail
    refine (spec_l1Fact (by omega)).mono ?_; rintro e w' ⟨rfl, rfl⟩
    rcases hf : (l.length == fact x.size)
    · have hI : ((l.length : Int) == (fact x.size : Int)) = false := by
        rw [beq_eq_false_iff_ne] at hf ⊢; omega
      have e3 := Lib.hid (show extR l = false by rw [e1.out, hf]; rcases nextsB l <;> rcases nodupB l <;> rfl)
      clear hf
      go_wp2
      go_ret2
      rw [e3.out]
      exact ⟨rfl, hB1⟩
    · have hI : ((l.length : Int) == (fact x.size : Int)) = true := by
        rw [beq_iff_eq] at hf ⊢; omega
      have e3 := Lib.hid (show extR l = (nextsB l && nodupB l) by rw [e1.out, hf, Bool.and_true])
      clear hf
      go_wp2_with fail
      refine (spec_l7True rfl (h.up hB1) hz hsz.out).mono ?_; rintro e w2 ⟨rfl, hb2⟩
      have hB2 := below_go hB1 hb2
      rcases hd : nodupB l <;> rcases hn : nextsB l
      all_goals
        have e4 := Lib.hid e3.out
        rw [hd, hn] at e4
        go_wp2
        go_ret2
        rw [e4.out]
        exact ⟨rfl, hB2⟩
end Go.Proofs.Ytmdmnjjlpefigaa
