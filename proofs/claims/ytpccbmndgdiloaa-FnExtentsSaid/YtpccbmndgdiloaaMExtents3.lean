/- Texts 3 of 6 that the claim leans on: plain laws and the walks' contracts, in order. -/
import Derived.Test.YtpccbmndgdiloaaMExtents2
import Derived.Lib.Strings
/- The walks through lists of changes between rows, truth by sorting, factorials, and extents. -/
namespace Go.Proofs.Ytpccbmndgdiloaa
set_option linter.unusedVariables false
set_option linter.unusedSimpArgs false
open Go.ChangeShapes Go.WideShapes Go.ChangeAt Go.RowKit Go.Deep
theorem fact_le : ∀ k, k < 9 → fact k ≤ 40320 := of_decide_eq_true (by kernel_rfl)
theorem fact_one {n : Nat} (h : n ≤ 1) : fact n = 1 := by
  rcases n with _ | _ | n
  · rfl
  · rfl
  · omega
theorem impl_factorial {n : Nat} {w : World} (hn : n ≤ 8) :
    Calls Try.prog 115 #[.int .i64 n] w fun e w' => e = .returned (.int .i64 (fact n)) ∧ w = w' := by
  have HF : Hid (∀ k, fact (k + 1) = (k + 1) * fact k) := Lib.hid (fun _ => rfl)
  go_in
  go_wp2
  go_loopw [3, 4] (fun v i wr => ∃ (k q : Nat), 1 ≤ k ∧ (k ≤ n ∨ k = 1) ∧ i = .int .i64 (k + 1 : Nat) ∧ v = .int .i64 q ∧ q ≤ 40320 ∧ Hid (q = fact k) ∧ w = wr) (fun _ i _ => n + 2 - (intOf i).toNat)
  case atStart => exact ⟨1, 1, Nat.le_refl _, .inr rfl, rfl, rfl, by omega, Lib.hid rfl, rfl⟩
  case round =>
    obtain ⟨k, q, hk1, hk, rfl, rfl, hq, HQ, rfl⟩ := hrel
    by_cases hlt : k + 1 ≤ n
    · have hI : (k : Int) + 1 ≤ (n : Int) := by omega
      have h2 := Lib.hid (show q * (k + 1) = fact (k + 1) by rw [HF.out, HQ.out, Nat.mul_comm])
      have h3 : q * (k + 1) ≤ 40320 := by rw [h2.out]; exact fact_le _ (by omega)
      have h4 : ((q : Int) * ((k : Int) + 1)) = ((q * (k + 1) : Nat) : Int) := by rw [Int.natCast_mul]; rfl
      have h5 : 0 ≤ (q : Int) * ((k : Int) + 1) ∧ (q : Int) * ((k : Int) + 1) ≤ 40320 := by rw [h4]; omega
      have H4 := Lib.hid h4
      obtain ⟨h6, h7⟩ := h5
      clear h4
      go_wp2
      go_roundw
      case rel => exact ⟨k + 1, q * (k + 1), by omega, by omega, by go_num, by rw [H4.out], h3, Lib.hid h2.out, trivial⟩
      case measure => simp [intOf]; omega
    · have hI : ¬ (k : Int) + 1 ≤ (n : Int) := by omega
      have e1 := Lib.hid (show q = fact n by
        rw [HQ.out]
        rcases hk with hk | hk
        · rw [show k = n by omega]
        · rw [hk, fact_one (by omega : n ≤ 1)]; rfl)
      go_wp2
      go_ret
      rw [← e1.out]
      exact ⟨rfl, rfl⟩
theorem spec_l1Fact {n : Nat} {w : World} (hn : n ≤ 8) :
    Calls Try.prog 123 #[.int .i64 n] w fun e w' => e = .returned (.int .i64 (fact n)) ∧ w = w' := by
  have HF : Hid (∀ k, fact (k + 1) = (k + 1) * fact k) := Lib.hid (fun _ => rfl)
  have hfn := fact_le n (by omega)
  go_in
  go_wp2
  go_loopw [0, 3] (fun i v wr => ∃ (k q : Nat), k ≤ n ∧ i = .int .i64 k ∧ v = .int .i64 q ∧ q ≤ 40320 ∧ Hid (q * fact k = fact n) ∧ w = wr) (fun i _ _ => (intOf i).toNat)
  case atStart => exact ⟨n, 1, Nat.le_refl _, rfl, rfl, by omega, Lib.hid (Nat.one_mul _), rfl⟩
  case round =>
    obtain ⟨k, q, hk, rfl, rfl, hq, HQ, rfl⟩ := hrel
    by_cases hlt : 1 < k
    · obtain ⟨m, rfl⟩ : ∃ m, k = m + 1 := ⟨k - 1, by omega⟩
      have hI : (1 : Int) < (m : Int) + 1 := by omega
      have h2 := Lib.hid (show q * (m + 1) * fact m = fact n by rw [Nat.mul_assoc, ← HF.out, HQ.out])
      have h3 : q * (m + 1) ≤ 40320 := Nat.le_trans (Nat.le_mul_of_pos_right _ (fact_pos m)) (by rw [h2.out]; exact hfn)
      have h4 : ((q : Int) * ((m : Int) + 1)) = ((q * (m + 1) : Nat) : Int) := by rw [Int.natCast_mul]; rfl
      have h5 : 0 ≤ (q : Int) * ((m : Int) + 1) ∧ (q : Int) * ((m : Int) + 1) ≤ 40320 := by rw [h4]; omega
      have H4 := Lib.hid h4
      obtain ⟨h6, h7⟩ := h5
      clear h4
      go_wp2
      go_roundw
      case rel => exact ⟨m, q * (m + 1), by omega, by first | go_num | rfl, by rw [H4.out], h3, Lib.hid h2.out, trivial⟩
      case measure => simp [intOf]
    · have hI : ¬ (1 : Int) < (k : Int) := by omega
      have e1 := Lib.hid (show q = fact n by rw [← HQ.out, fact_one (by omega : k ≤ 1), Nat.mul_one])
      go_wp2
      go_ret
      rw [← e1.out]
      exact ⟨rfl, rfl⟩
set_option maxRecDepth 100000 in
theorem spec_l7True {A : Option Addr} {N c : Nat} {l : List ByteArray} {w : World} (hN : l.length = N) (h : Strs w A l) (hz : N ≤ 16000000) (hs : ∀ s ∈ l, s.size ≤ 16777216) :
    Calls Try.prog 124 #[.slice A N c] w fun e w' => e = .returned (.bool (nodupB l)) ∧ Below w.heap.size w w' := by
  go_in
  go_wp2_with fail
  refine (spec_l6Sort N A c l w hN h hz hs).mono ?_; rintro e w1 ⟨A1, c1, L, rfl, ho, hp, hS, hb1⟩
  have HE := Lib.hid (show nodupB l = true ↔ ∀ k, 1 ≤ k → k < L.length → nextEq L k = false by
    rw [nodupB, decide_eq_true_iff, ← hp.nodup_iff]; exact srt_nodup hS)
  have hL := ho.len
  subst hL
  clear hp hS hN h hs
  go_wp2
  go_loopw [4] (fun i wr => ∃ k : Nat, 1 ≤ k ∧ (k ≤ L.length ∨ k = 1) ∧ i = .int .i64 k ∧ Hid (∀ j, 1 ≤ j → j < k → nextEq L j = false) ∧ Below w1.heap.size w1 wr) (fun i _ => L.length - (intOf i).toNat)
  case atStart => exact ⟨1, Nat.le_refl _, .inr rfl, rfl, Lib.hid (fun j h1 h2 => absurd h1 (by omega)), Below.refl _ _⟩
  case round =>
    obtain ⟨k, hk0, hk, rfl, HK, hb⟩ := hrel
    by_cases hlt : k < L.length
    · obtain ⟨q, rfl⟩ : ∃ q, k = q + 1 := ⟨k - 1, by omega⟩
      obtain ⟨b3, o3, y, rfl, _, hy, hcy⟩ := (ho.up hb).recs.at_str hlt
      obtain ⟨b4, o4, x, e, _, hx, hcx⟩ := (ho.up hb).recs.at_str (k := q) (by omega)
      injection e with e
      injection e with e1 e2
      subst e1 e2
      have HX := Lib.hid (nextEq_at (k := q + 1) hx hy)
      have hw1 := wrap_id (x := (q : Int) + 1 - 1) (by omega)
      have hw2 : (q : Int) + 1 - 1 = (q : Int) := by omega
      have hw3 := wrap_id (x := (q : Int)) (by omega)
      clear hx hy ho
      by_cases hxy : y = x
      · have e1 := Lib.hid (show nodupB l = false by
          rcases hq : nodupB l
          · rfl
          · have := HE.out.1 hq (q + 1) (by omega) hlt
            rw [HX.out, decide_eq_true hxy] at this; cases this)
        have e2 : (y.toList == x.toList) = true := by rw [hxy]; simp
        clear hxy
        go_wp2
        go_quiet (fail)
        clear hw1 hw2 hw3
        go_wp2
        go_ret
        rw [e1.out]
        exact ⟨rfl, by (repeat' (first | (with_reducible exact Below.refl _ _) | (with_reducible assumption) | (with_reducible refine below_drewN ?_ _) | (with_reducible refine Below.drew ?_) | (with_reducible refine below_alloc ?_ _) | (with_reducible refine Below.alloc ?_ ?_ _) | (with_reducible refine Below.setCell ?_ ?_ _) | (with_reducible refine below_go ?_ (by with_reducible assumption)) | (with_reducible refine below_then (by with_reducible assumption) ?_ ?_) | go_size))⟩
      · have e2 : (y.toList == x.toList) = false := by
          rw [beq_eq_false_iff_ne]; exact fun q => hxy (toList_inj q)
        have HN := Lib.hid (show nextEq L (q + 1) = false by rw [HX.out, decide_eq_false hxy])
        clear hxy
        go_wp2
        go_quiet (fail)
        clear hw1 hw2 hw3
        go_wp2
        go_roundw
        case rel => exact ⟨q + 2, by omega, by omega, by go_num, Lib.hid (fun j h1 h2 => by
          rcases Nat.lt_succ_iff_lt_or_eq.1 h2 with h | rfl
          · exact HK.out j h1 h
          · exact HN.out), by (repeat' (first | (with_reducible exact Below.refl _ _) | (with_reducible assumption) | (with_reducible refine below_drewN ?_ _) | (with_reducible refine Below.drew ?_) | (with_reducible refine below_alloc ?_ _) | (with_reducible refine Below.alloc ?_ ?_ _) | (with_reducible refine Below.setCell ?_ ?_ _) | (with_reducible refine below_go ?_ (by with_reducible assumption)) | (with_reducible refine below_then (by with_reducible assumption) ?_ ?_) | go_size))⟩
        case measure => simp [intOf]; omega
    · have e1 := Lib.hid (show nodupB l = true from HE.out.2 (fun j h1 h2 => HK.out j h1 (by omega)))
      go_wp2
      go_ret
      rw [e1.out]
      exact ⟨rfl, below_go hb1 hb⟩
/-- Row k of a list of rows, cyclically. -/
def cyc (l : List ByteArray) (k : Nat) : ByteArray := l.getD (k % l.length) ByteArray.empty
def nextAt (l : List ByteArray) (k : Nat) : Bool := btwB (cyc l k) (cyc l (k + 1))
def nextsB (l : List ByteArray) : Bool := (List.range l.length).all (nextAt l)
theorem cyc_at {l : List ByteArray} {k : Nat} {x : ByteArray} (h : l[k]? = some x) : cyc l k = x := by
  have := (List.getElem?_eq_some_iff.1 h).1
  rw [cyc, Nat.mod_eq_of_lt this, List.getD, h]; rfl
theorem cyc_last {l : List ByteArray} {x : ByteArray} (h : l[0]? = some x) : cyc l l.length = x := by
  rw [cyc, Nat.mod_self, List.getD, h]; rfl
theorem btw_self (a : ByteArray) : ∀ (k i : Nat) (sw : Bool), btwK a a k i sw = sw
  | 0, _, _ => by rw [btwK]
  | k + 1, i, sw => by rw [btw_eq rfl, btw_self a k]
theorem nexts_one {l : List ByteArray} (h : l.length = 1) : nextsB l = false := by
  match l, h with
  | [x], _ =>
    show (List.all [0] (nextAt [x])) = false
    simp [nextAt, cyc, btwB, btw_self]
theorem goodRows_size {l : List ByteArray} (h : goodRows l = true) {i j : Nat} {x y : ByteArray} (hx : l[i]? = some x) (hy : l[j]? = some y) : x.size = y.size := by
  rw [goodRows, Bool.and_eq_true, List.all_eq_true] at h
  have key : ∀ (k : Nat) (z : ByteArray), l[k]? = some z → z.size = (l.getD 0 ByteArray.empty).size := fun k z hz => by
    have := h.1 k (List.mem_range.2 (List.getElem?_eq_some_iff.1 hz).1)
    rw [okRow, Bool.and_eq_true, List.getD, hz] at this
    simpa using this.2
  rw [key i x hx, key j y hy]
set_option maxHeartbeats 1000000 in
set_option maxRecDepth 100000 in
theorem impl_changesIn {A : Option Addr} {N c : Nat} {l : List ByteArray} {w : World} (hN : l.length = N) (h : Strs w A l) (hz : 0 < N) (hg : goodRows l = true) :
    Calls Try.prog 113 #[.slice A N c] w fun e w' => ∃ A' m c', e = .returned (.tuple #[.slice A' m c', .bool (nextsB l)]) ∧ Below w.heap.size w w' := by
  subst hN
  have h8 := goodRows_len hg
  have HG := Lib.hid (goodRows_mem hg)
  have HZ := Lib.hid (fun (i j : Nat) (x y : ByteArray) (hx : l[i]? = some x) (hy : l[j]? = some y) => goodRows_size hg hx hy)
  have HQ : Hid (nextsB l = (List.range l.length).all (nextAt l)) := Lib.hid rfl
  clear hg
  by_cases h1 : l.length < 2
  · have e1 := Lib.hid (nexts_one (l := l) (by omega))
    go_in
    go_wp2
    go_ret2
    rw [e1.out]
    exact ⟨_, _, _, rfl, Below.refl _ _⟩
  · go_in
    go_wp2
    go_loopw [4, 15] (fun v i wr => ∃ (k : Nat) (A' : Option Addr) (c' : Nat) (M : List ByteArray), k ≤ l.length ∧ i = .int .i64 k ∧ v = .slice A' k c' ∧ Hid (∀ j, j < k → nextAt l j = true) ∧ Hid (Owned strE 1 9 wr w.heap.size A' k c' M) ∧ Below w.heap.size w wr) (fun _ i _ => l.length - (intOf i).toNat)
    case atStart => exact ⟨0, _, _, [], Nat.zero_le _, rfl, rfl, Lib.hid (fun j hj => absurd hj (by omega)), Lib.hid (Owned.empty strE_len _ _ (Nat.le_refl _)), by (repeat' (first | (with_reducible exact Below.refl _ _) | (with_reducible assumption) | (with_reducible refine below_drewN ?_ _) | (with_reducible refine Below.drew ?_) | (with_reducible refine below_alloc ?_ _) | (with_reducible refine Below.alloc ?_ ?_ _) | (with_reducible refine Below.setCell ?_ ?_ _) | (with_reducible refine below_go ?_ (by with_reducible assumption)) | (with_reducible refine below_then (by with_reducible assumption) ?_ ?_) | go_size))⟩
    case round =>
      obtain ⟨k, A', c', M, hk, rfl, rfl, HK, HO, hb⟩ := hrel
      have hsz := hb.size
      by_cases hlt : k < l.length
      · obtain ⟨b3, o3, x, rfl, hbb, hx, hcx⟩ := (h.below hb (Nat.le_refl _)).at_str hlt
        have hxg := HG.out x (List.mem_of_getElem? hx)
        have hxn := goodRow_n hxg
        obtain ⟨q, hq1, hq2⟩ : ∃ q, q < l.length ∧ (((k : Int) + 1) % (l.length : Int) = (q : Int) ∧ cyc l (k + 1) = l.getD q ByteArray.empty) := by
          refine ⟨(k + 1) % l.length, Nat.mod_lt _ (by omega), ?_, rfl⟩
          rw [Int.natCast_emod]; rfl
        obtain ⟨b4, o4, y, e, _, hy, hcy⟩ := (h.below hb (Nat.le_refl _)).at_str hq1
        injection e with e
        injection e with e1 e2
        subst e1 e2
        have hyg := HG.out y (List.mem_of_getElem? hy)
        have hsy := HZ.out k q x y hx hy
        have E := Lib.hid (show nextAt l k = btwB x y by rw [nextAt, cyc_at hx, hq2.2, List.getD, hy]; rfl)
        have hm := hq2.1
        have hm2 : ((k : Int) + 1).tmod (l.length : Int) = (q : Int) := by rw [Int.tmod_eq_emod_of_nonneg (by omega)]; exact hm
        have HC := Lib.hid (fun (u : World) => impl_between (a := x) (b := y) (n := x.size) (w := u) rfl hsy.symm hxn.2)
        clear hx hy h hq2 hsy
        go_wp2_with fail
        refine (HC.out _).mono ?_; rintro e w3 ⟨s, rfl, hs, hb3⟩
        clear hm hm2
        rcases hbt : btwB x y
        · have e1 := Lib.hid (show nextsB l = false by rw [HQ.out]; exact all_no hlt (by rw [E.out, hbt]))
          go_wp2
          go_ret2
          rw [e1.out]
          exact ⟨_, _, _, rfl, below_go hb hb3⟩
        · have e1 := Lib.hid (show nextAt l k = true by rw [E.out, hbt])
          have HO3 := Lib.hid (HO.out.up hb3)
          have hsz3 := hb3.size
          have hbt3 := below_go hb hb3
          go_wp2_with (first | (at_builtin; go_must ((refine wpList_append_rec Try.elStr rfl (.tmp 35) (.tmp 37) rfl rfl (HO3.out.alloc _) s rfl (Box.at_ _ [.string s] _ ?_) (strE_one _) ?_ (by decide) ?_ ?_; (focus (first | omega | (simp only [World.size_alloc]; done) | (simp only [World.size_alloc]; omega) | (simp; done) | (simp; omega))); (focus (first | omega | (simp only [World.size_alloc]; done) | (simp only [World.size_alloc]; omega) | (simp; done) | (simp; omega))); (focus (first | omega | (simp only [World.size_alloc]; done) | (simp only [World.size_alloc]; omega) | (simp; done) | (simp; omega))); intro A4 c4 w4 ho4 hg4 hb4))))
          go_roundw
          case rel => exact ⟨k + 1, A4, c4, _, by omega, by go_num, by go_num, Lib.hid (upto_succ HK.out e1.out), Lib.hid ho4, (hbt3.alloc (by omega) _).trans hb4⟩
          case measure => simp [intOf]; omega
      · obtain rfl : k = l.length := by omega
        have e1 := Lib.hid (show nextsB l = true by rw [HQ.out]; exact all_yes (fun j hj => HK.out j hj))
        go_wp2
        go_ret2
        rw [e1.out]
        exact ⟨_, _, _, rfl, hb⟩
set_option maxHeartbeats 1000000 in
set_option maxRecDepth 100000 in
theorem spec_l7Changes {A : Option Addr} {N c : Nat} {l : List ByteArray} {w : World} (hN : l.length = N) (h : Strs w A l) (hz : 0 < N) (hg : goodRows l = true) :
    Calls Try.prog 122 #[.slice A N c] w fun e w' => ∃ A' m c', e = .returned (.tuple #[.slice A' m c', .bool (nextsB l)]) ∧ Below w.heap.size w w' := by
  subst hN
  have h8 := goodRows_len hg
  have HG := Lib.hid (goodRows_mem hg)
  have HZ := Lib.hid (fun (i j : Nat) (x y : ByteArray) (hx : l[i]? = some x) (hy : l[j]? = some y) => goodRows_size hg hx hy)
  have HQ : Hid (nextsB l = (List.range l.length).all (nextAt l)) := Lib.hid rfl
  clear hg
  go_in
  go_wp2
  go_loopw [4, 11] (fun v i wr => ∃ (k : Nat) (A' : Option Addr) (c' : Nat) (M : List ByteArray), k ≤ l.length ∧ i = .int .i64 k ∧ v = .slice A' k c' ∧ Hid (∀ j, j < k → nextAt l j = true) ∧ Hid (Owned strE 1 9 wr w.heap.size A' k c' M) ∧ Below w.heap.size w wr) (fun _ i _ => l.length - (intOf i).toNat)
  case atStart => exact ⟨0, _, _, [], Nat.zero_le _, rfl, rfl, Lib.hid (fun j hj => absurd hj (by omega)), Lib.hid (Owned.nil strE_len _ _ _), Below.refl _ _⟩
  case round =>
    obtain ⟨k, A', c', M, hk, rfl, rfl, HK, HO, hb⟩ := hrel
    have hsz := hb.size
    by_cases hlt : k < l.length
    · obtain ⟨b3, o3, x, rfl, hbb, hx, hcx⟩ := (h.below hb (Nat.le_refl _)).at_str hlt
      have hxg := HG.out x (List.mem_of_getElem? hx)
      have hxn := goodRow_n hxg
      obtain ⟨q, hq1, hq2⟩ : ∃ q, q < l.length ∧ (((k : Int) + 1) % (l.length : Int) = (q : Int) ∧ cyc l (k + 1) = l.getD q ByteArray.empty) := by
        refine ⟨(k + 1) % l.length, Nat.mod_lt _ (by omega), ?_, rfl⟩
        rw [Int.natCast_emod]; rfl
      obtain ⟨b4, o4, y, e, _, hy, hcy⟩ := (h.below hb (Nat.le_refl _)).at_str hq1
      injection e with e
      injection e with e1 e2
      subst e1 e2
      have hyg := HG.out y (List.mem_of_getElem? hy)
      have hsy := HZ.out k q x y hx hy
      have E := Lib.hid (show nextAt l k = btwB x y by rw [nextAt, cyc_at hx, hq2.2, List.getD, hy]; rfl)
      have hm := hq2.1
      have hm2 : ((k : Int) + 1).tmod (l.length : Int) = (q : Int) := by rw [Int.tmod_eq_emod_of_nonneg (by omega)]; exact hm
      have HC := Lib.hid (fun (u : World) => spec_BetweenRows (a := x) (b := y) (w := u) hxg hyg hsy)
      clear hx hy h hq2 hsy
      go_wp2_with fail
      refine (HC.out _).mono ?_; rintro e w3 ⟨s, rfl, hs, hb3⟩
      clear hm hm2
      rcases hbt : btwB x y
      · have e1 := Lib.hid (show nextsB l = false by rw [HQ.out]; exact all_no hlt (by rw [E.out, hbt]))
        go_wp2
        go_ret2
        rw [e1.out]
        exact ⟨_, _, _, rfl, below_go hb hb3⟩
      · have e1 := Lib.hid (show nextAt l k = true by rw [E.out, hbt])
        have HO3 := Lib.hid (HO.out.up hb3)
        have hsz3 := hb3.size
        have hbt3 := below_go hb hb3
        go_wp2_with (first | (at_builtin; go_must ((refine wpList_append_rec Try.elStr rfl (.tmp 31) (.tmp 33) rfl rfl (HO3.out.alloc _) s rfl (Box.at_ _ [.string s] _ ?_) (strE_one _) ?_ (by decide) ?_ ?_; (focus (first | omega | (simp only [World.size_alloc]; done) | (simp only [World.size_alloc]; omega) | (simp; done) | (simp; omega))); (focus (first | omega | (simp only [World.size_alloc]; done) | (simp only [World.size_alloc]; omega) | (simp; done) | (simp; omega))); (focus (first | omega | (simp only [World.size_alloc]; done) | (simp only [World.size_alloc]; omega) | (simp; done) | (simp; omega))); intro A4 c4 w4 ho4 hg4 hb4))))
        go_roundw
        case rel => exact ⟨k + 1, A4, c4, _, by omega, by go_num, by go_num, Lib.hid (upto_succ HK.out e1.out), Lib.hid ho4, (hbt3.alloc (by omega) _).trans hb4⟩
        case measure => simp [intOf]; omega
    · obtain rfl : k = l.length := by omega
      have e1 := Lib.hid (show nextsB l = true by rw [HQ.out]; exact all_yes (fun j hj => HK.out j hj))
      have hI : (0 : Int) < (l.length : Int) := by omega
      go_wp2
      go_ret2
      rw [e1.out]
      exact ⟨A', l.length, c', by simp [hz], hb⟩
/-! extents -/
def smallR (l : List ByteArray) : Bool := goodRows l && (decide (0 < l.length) && decide ((l.getD 0 ByteArray.empty).size ≤ 6))
def extR (l : List ByteArray) : Bool := smallR l && (nextsB l && (nodupB l && (l.length == fact (l.getD 0 ByteArray.empty).size)))
theorem impl_countable {A : Option Addr} {N c : Nat} {l : List ByteArray} {w : World} (hN : l.length = N) (h : Strs w A l) (hz : N ≤ 16000000) (hs : ∀ s ∈ l, s.size ≤ 16777216) :
    Calls Try.prog 112 #[.slice A N c] w fun e w' => e = .returned (.bool (smallR l)) ∧ w = w' := by
  subst hN
  have E : Hid (smallR l = (goodRows l && (decide (0 < l.length) && decide ((l.getD 0 ByteArray.empty).size ≤ 6)))) := Lib.hid rfl
  rcases hg : goodRows l
  · have e1 := Lib.hid (show smallR l = false by rw [E.out, hg]; rfl)
    go_in
    go_wp2_with fail
    refine (impl_GoodRows rfl h (by omega) hs).mono ?_; rw [hg]; rintro e w' ⟨rfl, rfl⟩
    go_wp2
    go_ret
    rw [e1.out]
    exact ⟨rfl, rfl⟩
  · by_cases h0 : 0 < l.length
    · obtain ⟨b, o, x, rfl, _, hx, hc⟩ := h.at_str (k := 0) h0
      have e1 := Lib.hid (show smallR l = decide (x.size ≤ 6) by rw [E.out, hg, decide_eq_true h0, List.getD, hx]; rfl)
      simp only [Nat.add_zero] at hc
      clear hx
      go_in
      go_wp2_with fail
      refine (impl_GoodRows rfl h (by omega) hs).mono ?_; rw [hg]; rintro e w' ⟨rfl, rfl⟩
      go_wp2
      go_ret
      exact ⟨ret_bool (by rw [e1.out]; exact decide_eq_decide.2 (by omega)), rfl⟩
    · have e1 := Lib.hid (show smallR l = false by rw [E.out, hg, decide_eq_false h0]; rfl)
      have hI : ¬ (0 : Int) < (l.length : Int) := by omega
      go_in
      go_wp2_with fail
      refine (impl_GoodRows rfl h (by omega) hs).mono ?_; rw [hg]; rintro e w' ⟨rfl, rfl⟩
      go_wp2
      go_ret
      rw [e1.out]
      exact ⟨rfl, rfl⟩
theorem spec_l7Small {A : Option Addr} {N c : Nat} {l : List ByteArray} {w : World} (hN : l.length = N) (h : Strs w A l) (hz : N ≤ 16000000) (hs : ∀ s ∈ l, s.size ≤ 16777216) :
    Calls Try.prog 121 #[.slice A N c] w fun e w' => e = .returned (.bool (smallR l)) ∧ Below w.heap.size w w' := by
  subst hN
  have E : Hid (smallR l = (goodRows l && (decide (0 < l.length) && decide ((l.getD 0 ByteArray.empty).size ≤ 6)))) := Lib.hid rfl
  rcases hg : goodRows l
  · have e1 := Lib.hid (show smallR l = false by rw [E.out, hg]; rfl)
    go_in
    go_wp2_with fail
    refine (spec_l6Rows rfl h (by omega) hs).mono ?_; rw [hg]; rintro e w1 ⟨rfl, hb1⟩
    go_wp2
    go_ret
    rw [e1.out]
    exact ⟨rfl, hb1⟩
  · by_cases h0 : 0 < l.length
    · obtain ⟨b, o, x, rfl, hbb, hx, hc⟩ := h.at_str (k := 0) h0
      have e1 := Lib.hid (show smallR l = decide (x.size ≤ 6) by rw [E.out, hg, decide_eq_true h0, List.getD, hx]; rfl)
      simp only [Nat.add_zero] at hc
      clear hx
      go_in
      go_wp2_with fail
      refine (spec_l6Rows rfl h (by omega) hs).mono ?_; rw [hg]; rintro e w1 ⟨rfl, hb1⟩
      have hc1 := (hb1.cell (p := ⟨b, o, none⟩) hbb).trans hc
      go_wp2
      go_ret
      exact ⟨ret_bool (by rw [e1.out]; exact decide_eq_decide.2 (by omega)), hb1⟩
    · have e1 := Lib.hid (show smallR l = false by rw [E.out, hg, decide_eq_false h0]; rfl)
      have hI : ¬ (0 : Int) < (l.length : Int) := by omega
      go_in
      go_wp2_with fail
      refine (spec_l6Rows rfl h (by omega) hs).mono ?_; rw [hg]; rintro e w1 ⟨rfl, hb1⟩
      go_wp2
      go_ret
      rw [e1.out]
      exact ⟨rfl, hb1⟩
theorem small_t {l : List ByteArray} (h : smallR l = true) : goodRows l = true ∧ 0 < l.length ∧ ∀ x, l[0]? = some x → x.size ≤ 6 := by
  simp only [smallR, Bool.and_eq_true, decide_eq_true_eq] at h
  exact ⟨h.1, h.2.1, fun x hx => by have := h.2.2; rw [List.getD, hx] at this; exact this⟩
set_option maxHeartbeats 1000000 in
theorem impl_IsExtent {A : Option Addr} {N c : Nat} {l : List ByteArray} {w : World} (hN : l.length = N) (h : Strs w A l) (hz : N ≤ 16000000) (hs : ∀ s ∈ l, s.size ≤ 16777216) :
    Calls Try.prog 35 #[.slice A N c] w fun e w' => e = .returned (.tuple #[.bool (extR l), .bool (smallR l)]) ∧ Below w.heap.size w w' := by
  subst hN
  have E : Hid (extR l = (smallR l && (nextsB l && (nodupB l && (l.length == fact (l.getD 0 ByteArray.empty).size))))) := Lib.hid rfl
  rcases hS : smallR l
  · have e1 := Lib.hid (show extR l = false by rw [E.out, hS]; rfl)
    go_in
    go_wp2_with fail
    refine (impl_countable rfl h hz hs).mono ?_; rw [hS]; rintro e w' ⟨rfl, rfl⟩
    go_wp2
    go_ret2
    rw [e1.out]
    exact ⟨rfl, Below.refl _ _⟩
  · obtain ⟨hg, h0, h6⟩ := small_t hS
    obtain ⟨b, o, x, e0, hbb, hx, hc⟩ := h.at_str (k := 0) h0
    subst e0
    have hx6 := h6 x hx
    simp only [Nat.add_zero] at hc
    have e1 := Lib.hid (show extR l = (nextsB l && (nodupB l && (l.length == fact x.size))) by rw [E.out, hS, List.getD, hx]; rfl)
    have HG := Lib.hid hg
    have hsz := Lib.hid hs
    clear hg h6 hx hs
    go_in
    go_wp2_with fail
    refine (impl_countable rfl h hz hsz.out).mono ?_; rw [hS]; rintro e w' ⟨rfl, rfl⟩
    go_wp2_with fail
    refine (impl_changesIn rfl h h0 HG.out).mono ?_; rintro e w1 ⟨A1, m1, c1, rfl, hb1⟩
    have hc1 := (hb1.cell (p := ⟨b, o, none⟩) hbb).trans hc
    rcases hn : nextsB l
    · have e2 := Lib.hid (show extR l = false by rw [e1.out, hn]; rfl)
      go_wp2
      go_ret2
      rw [e2.out]
      exact ⟨rfl, hb1⟩
    · go_wp2_with fail
      refine (impl_isTrue rfl (h.up hb1) hz hsz.out).mono ?_; rintro e w2 ⟨rfl, hb2⟩
      have hc2 := (hb2.cell (p := ⟨b, o, none⟩) (by have := hb1.size; show b < w1.heap.size; omega)).trans hc1
      rcases hd : nodupB l
      · have e2 := Lib.hid (show extR l = false by rw [e1.out, hn, hd]; rfl)
        go_wp2
        go_ret2
        rw [e2.out]
        exact ⟨rfl, below_go hb1 hb2⟩
      · have e2 := Lib.hid (show extR l = (l.length == fact x.size) by rw [e1.out, hn, hd]; rfl)
        go_wp2_with fail
        refine (impl_factorial (by omega)).mono ?_; rintro e w' ⟨rfl, rfl⟩
        rcases hf : (l.length == fact x.size)
        · have hI : ((l.length : Int) == (fact x.size : Int)) = false := by
            rw [beq_eq_false_iff_ne] at hf ⊢; omega
          have e3 := Lib.hid (e2.out.trans hf)
          clear hf
          go_wp2
          go_ret2
          rw [e3.out]
          exact ⟨rfl, below_go hb1 hb2⟩
        · have hI : ((l.length : Int) == (fact x.size : Int)) = true := by
            rw [beq_iff_eq] at hf ⊢; omega
          have e3 := Lib.hid (e2.out.trans hf)
          clear hf
          go_wp2
          go_ret2
          rw [e3.out]
          exact ⟨rfl, below_go hb1 hb2⟩
set_option maxHeartbeats 1000000 in
theorem spec_IsExtent {A : Option Addr} {N c : Nat} {l : List ByteArray} {w : World} (hN : l.length = N) (h : Strs w A l) (hz : N ≤ 16000000) (hs : ∀ s ∈ l, s.size ≤ 16777216) :
    Calls Try.prog 39 #[.slice A N c] w fun e w' => e = .returned (.tuple #[.bool (extR l), .bool (smallR l)]) ∧ Below w.heap.size w w' := by
  subst hN
  have E : Hid (extR l = (smallR l && (nextsB l && (nodupB l && (l.length == fact (l.getD 0 ByteArray.empty).size))))) := Lib.hid rfl
  rcases hS : smallR l
  · have e1 := Lib.hid (show extR l = false by rw [E.out, hS]; rfl)
    go_in
    go_wp2_with fail
    refine (spec_l7Small rfl h hz hs).mono ?_; rw [hS]; rintro e w1 ⟨rfl, hb1⟩
    go_wp2
    go_ret2
    rw [e1.out]
    exact ⟨rfl, hb1⟩
  · obtain ⟨hg, h0, h6⟩ := small_t hS
    obtain ⟨b, o, x, e0, hbb, hx, hc⟩ := h.at_str (k := 0) h0
    subst e0
    have hx6 := h6 x hx
    simp only [Nat.add_zero] at hc
    have e1 := Lib.hid (show extR l = (nextsB l && (nodupB l && (l.length == fact x.size))) by rw [E.out, hS, List.getD, hx]; rfl)
    have HG := Lib.hid hg
    have hsz := Lib.hid hs
    clear hg h6 hx hs
    go_in
    go_wp2_with fail
    refine (spec_l7Small rfl h hz hsz.out).mono ?_; rw [hS]; rintro e w0 ⟨rfl, hb0⟩
    have hbb0 : b < w0.heap.size := by have := hb0.size; omega
    have hc0 := (hb0.cell (p := ⟨b, o, none⟩) hbb).trans hc
    go_wp2_with fail
    refine (spec_l7Changes rfl (h.up hb0) h0 HG.out).mono ?_; rintro e w1 ⟨A1, m1, c1, rfl, hb1⟩
    have hB1 := below_go hb0 hb1
    have hc1 := (hb1.cell (p := ⟨b, o, none⟩) hbb0).trans hc0
    go_wp2_with fail
    refine (spec_l1Fact (by omega)).mono ?_; rintro e w' ⟨rfl, rfl⟩
    rcases hf : (l.length == fact x.size)
    · have hI : ((l.length : Int) == (fact x.size : Int)) = false := by
        rw [beq_eq_false_iff_ne] at hf ⊢; omega
      have e3 := Lib.hid (show extR l = false by rw [e1.out, hf]; rcases nextsB l <;> rcases nodupB l <;> rfl)
      clear hf
      go_wp2
      go_ret2
      rw [e3.out]
      exact ⟨rfl, hB1⟩
    · have hI : ((l.length : Int) == (fact x.size : Int)) = true := by
        rw [beq_iff_eq] at hf ⊢; omega
      have e3 := Lib.hid (show extR l = (nextsB l && nodupB l) by rw [e1.out, hf, Bool.and_true])
      clear hf
      go_wp2_with fail
      refine (spec_l7True rfl (h.up hB1) hz hsz.out).mono ?_; rintro e w2 ⟨rfl, hb2⟩
      have hB2 := below_go hB1 hb2
      rcases hd : nodupB l <;> rcases hn : nextsB l
      all_goals
        have e4 := Lib.hid e3.out
        rw [hd, hn] at e4
        go_wp2
        go_ret2
        rw [e4.out]
        exact ⟨rfl, hB2⟩
end Go.Proofs.Ytpccbmndgdiloaa
/- The walks through closures: the group that some rows generate, both sides. -/
namespace Go.Proofs.Ytpccbmndgdiloaa
set_option linter.unusedVariables false
set_option linter.unusedSimpArgs false
open Go.ChangeShapes Go.WideShapes Go.ChangeAt Go.RowKit Go.Deep
open Go.Maps (Keyed string_keyed)
open Go.WideMaps (keyOf_string_mk)
theorem pre_at {α : Type} {l m : List α} {k : Nat} {x : α} (h : l <+: m) (hx : l[k]? = some x) : m[k]? = some x := by
  obtain ⟨t, rfl⟩ := h
  rw [List.getElem?_append_left (List.getElem?_eq_some_iff.1 hx).1]; exact hx
theorem pre_len {α : Type} {l m : List α} (h : l <+: m) : l.length ≤ m.length := h.length_le
theorem own_lit1_at' {α : Type} {e : α → List Value} {s : Nat} (he : ∀ x, (e x).length = s) (w : World) (E : TypeId) (x : α) {b base : Nat} (h : b = w.heap.size) (hb : base ≤ w.heap.size) : Owned e s E (w.alloc (.cells ⟨e x⟩ E)) base (some ⟨b, 0, none⟩) 1 1 [x] := by
  subst h
  exact ⟨he, rfl, by simpa using World.ownsRow_lit (e := E) (base := base) (size := s) w ⟨e x⟩ 1 hb (by unfold maxLen; omega) (by simp [he])⟩
theorem wpList_set_ins {P : Program} {ops : Array Oper} {rest : List Oper} {o : Oper} {a : Act} {Q : Exit → Act → World → Prop} {W : World} (hgd : o.guard = none) (M X V : Operand) (t : TypeId) (hop : o.op = Op.insert t M X V)
    {k e : TypeId} (K : Keyed P k) (ht : P.underlying t = some (.map k e)) (he : P.underlying e = some .bool) {b n : Nat} {S : List Value} (hm : a.eval M = .map (some b)) (h : SetOf P W k e b n S) (hn : n ≤ 16777216) {key : Value} (hx : a.eval X = key) (hv : a.eval V = .bool true)
    {kl : Lit} (hkey : keyOf P k key = some kl) (hK : ∀ w', SetOf P w' k e b (n + 1) (key :: S) → W.grownBy w' (some b) → wpList P ops Q rest (a.put o.dst undef) w') : wpList P ops Q (o :: rest) a W := by
  obtain ⟨D, h1, h2⟩ := h
  obtain ⟨w', hrun, hown, hg⟩ := h1.update K ht (by unfold maxLen; omega) hkey (plainElem_bool he true)
  refine wpList_plain hgd fun K' hK' => ?_
  unfold Oper.wp
  simp [execOp, hop, hm, hx, hv, hrun, Result.andThen]
  refine hK' _ _ (hK w' ⟨_, hown, fun key' kl' hk' => ?_⟩ hg)
  by_cases ek : kl' = kl
  · subst ek
    have e1 : key' = key := K.inj hk' hkey
    subst e1
    rw [Maps.atKey_put_same h1.isMap (K.key hkey)]
    exact ⟨fun _ => rfl, fun hne => absurd (List.mem_cons_self ..) hne⟩
  · have e1 : key' ≠ key := fun e2 => ek (by rw [e2, hkey] at hk'; injection hk' with hk'; exact hk'.symm)
    rw [Maps.atKey_put_other ek]
    obtain ⟨a1, a2⟩ := h2 key' kl' hk'
    refine ⟨fun hi => a1 ?_, fun hi => a2 (fun hc => hi (List.mem_cons_of_mem _ hc))⟩
    rcases List.mem_cons.1 hi with hi | hi
    · exact absurd hi e1
    · exact hi
/-- The keys of a set of texts. -/
def keysS (L : List ByteArray) : List Value := (L.map strV).reverse
theorem keysS_mem {s : ByteArray} {L : List ByteArray} : strV s ∈ keysS L ↔ s ∈ L := by rw [keysS, List.mem_reverse, strV_mem]
theorem keysS_snoc (L : List ByteArray) (s : ByteArray) : keysS (L ++ [s]) = strV s :: keysS L := by rw [keysS, keysS, List.map_append, List.reverse_append]; rfl
set_option maxHeartbeats 1000000 in
set_option maxRecDepth 100000 in
theorem impl_generated {A : Option Addr} {N c n most : Nat} {gs : List ByteArray} {w : World} (hN : gs.length = N) (h : Strs w A gs) (hz : N ≤ 16777216) (h3 : 3 ≤ n) (h8 : n ≤ 8) (hg : ∀ g ∈ gs, RowN n g) (hm : 1 ≤ most) (hm2 : most ≤ 1000000) :
    Calls Try.prog 172 #[.int .i64 n, .slice A N c, .int .i64 most] w fun e w' => ∃ A' m' c', e = .returned (.tuple #[.slice A' m' c', .bool (decide ((clF n gs).length ≤ most))]) ∧ ((clF n gs).length ≤ most → m' = (clF n gs).length ∧ ∃ L, Owned strE 1 9 w' w.heap.size A' m' c' L ∧ L.Perm (clF n gs) ∧ Srt L) ∧ (¬ (clF n gs).length ≤ most → A' = none ∧ m' = 0 ∧ c' = 0) ∧ Below w.heap.size w w' := by
  subst hN
  have hmm := @run_makeMap Try.prog
  have KS := string_keyed (P := Try.prog) (k := 9) Try.underlying9
  have HG := Lib.hid hg
  have hr := rowN_rounds h3 h8
  have h40 : fact n ≤ 40320 := fact_le8 h8
  have HOK := Lib.hid (fun k => clAt_ok hr hg k)
  have HPF := Lib.hid (fun k x (hx : (clAt gs (roundsS n) k)[k]? = some x) j (hj : j ≤ gs.length) => clPart_F h3 h8 hg hx hj)
  have HEND := Lib.hid (fun k (hk : (clAt gs (roundsS n) k).length = k) => clF_end h3 h8 hg hk)
  have HLE := Lib.hid (fun k => (clAt_ok hr hg k).le)
  have hkr := keyOf_string_mk (P := Try.prog) (k := 9) Try.underlying9 (s := roundsS n) (by rw [hr.2]; unfold maxLen; omega)
  have HKR := Lib.hid hkr
  clear hg hkr
  have HM0 := Lib.hid (SetOf.made Try.prog w 9 4)
  go_in
  go_wp2_with (first | (go_at_call 102; refine (impl_rounds h8).mono ?_; rintro e w' ⟨rfl, rfl⟩) | (refine wpList_set_ins rfl (.tmp 14) (.tmp 16) (.const (.bool true)) 116 rfl KS Try.underlying116 Try.underlying4 rfl HM0.out ?_ (key := strV (roundsS n)) rfl rfl HKR.out ?_; (focus (first | omega | (simp only [World.size_alloc]; done) | (simp only [World.size_alloc]; omega) | (simp; done) | (simp; omega))); intro w1 hm1 hg1; have hb1 : Below w.heap.size w w1 := (((Below.refl _ _).alloc (Nat.le_refl _) (.map #[] 0)).grown hg1 (by simp) (fun k hk => by injection hk with hk; omega)); have hw1 : w.heap.size + 1 ≤ w1.heap.size := (by have := hg1.size; simp at this; omega)))
  clear hmm HM0
  have HM1 := Lib.hid (show SetOf Try.prog (w1.alloc (.cells #[.string (roundsS n)] 9)) 9 4 w.heap.size 1 (keysS (clAt gs (roundsS n) 0)) from (hm1.alloc _))
  clear hm1 hg1
  go_loopw [9, 10] (fun v i wr => ∃ (k : Nat) (A' : Option Addr) (c' : Nat), k ≤ (clAt gs (roundsS n) k).length ∧ (clAt gs (roundsS n) k).length ≤ most ∧ i = .int .i64 k ∧ v = .slice A' (clAt gs (roundsS n) k).length c' ∧ Hid (SetOf Try.prog wr 9 4 w.heap.size (clAt gs (roundsS n) k).length (keysS (clAt gs (roundsS n) k))) ∧ Hid (Owned strE 1 9 wr (w.heap.size + 1) A' (clAt gs (roundsS n) k).length c' (clAt gs (roundsS n) k)) ∧ Below w.heap.size w wr) (fun _ i _ => fact n - (intOf i).toNat)
  case atStart => exact ⟨0, some ⟨w1.heap.size, 0, none⟩, 1, Nat.zero_le _, hm, rfl, rfl, HM1, Lib.hid (own_lit1_at' strE_len w1 9 (roundsS n) rfl hw1), by (repeat' (first | (with_reducible exact Below.refl _ _) | (with_reducible assumption) | (with_reducible refine below_drewN ?_ _) | (with_reducible refine Below.drew ?_) | (with_reducible refine below_alloc ?_ _) | (with_reducible refine Below.alloc ?_ ?_ _) | (with_reducible refine Below.setCell ?_ ?_ _) | (with_reducible refine below_go ?_ (by with_reducible assumption)) | (with_reducible refine below_then (by with_reducible assumption) ?_ ?_) | go_size))⟩
  case round =>
    obtain ⟨k, A1, c1, hk, hkm, rfl, rfl, HM, HO, hb⟩ := hrel
    rename World => w2
    have hle := HLE.out k
    have hle1 := HLE.out (k + 1)
    by_cases hlt : k < (clAt gs (roundsS n) k).length
    · obtain ⟨x, hx⟩ := some_of_lt hlt
      have HX := Lib.hid hx
      have hxN := (HOK.out k).2 x (List.mem_of_getElem? hx)
      have HP := Lib.hid (fun j (hj : j ≤ gs.length) => HPF.out k x hx j hj)
      have HNX := Lib.hid (clAt_more (gs := gs) (r := roundsS n) hx)
      have HPO := Lib.hid (fun j => (HOK.out k).part hxN HG.out j)
      clear hx
      go_wp2
      go_loopw [9, 29] (fun v i wr => ∃ (j : Nat) (A' : Option Addr) (c' : Nat), j ≤ gs.length ∧ (clPart gs x j (clAt gs (roundsS n) k)).length ≤ most ∧ i = .int .i64 j ∧ v = .slice A' (clPart gs x j (clAt gs (roundsS n) k)).length c' ∧ Hid (SetOf Try.prog wr 9 4 w.heap.size (clPart gs x j (clAt gs (roundsS n) k)).length (keysS (clPart gs x j (clAt gs (roundsS n) k)))) ∧ Hid (Owned strE 1 9 wr (w.heap.size + 1) A' (clPart gs x j (clAt gs (roundsS n) k)).length c' (clPart gs x j (clAt gs (roundsS n) k))) ∧ Below w.heap.size w wr) (fun _ i _ => gs.length - (intOf i).toNat)
      case atStart => exact ⟨0, A1, c1, Nat.zero_le _, hkm, rfl, rfl, HM, HO, hb⟩
      case round =>
        clear HM HO hb
        obtain ⟨j, A1, c1, hj, hjm, rfl, rfl, HM, HO, hb⟩ := hrel
        rename World => w3
        have hlen := (HPO.out j).le
        have hpl := pre_len (clPart_pre gs x j (clAt gs (roundsS n) k))
        by_cases hjl : j < gs.length
        · obtain ⟨b1, o1, g, rfl, hbb, hgj, hcg0⟩ := h.at_str hjl
          have hcg := (hb.cell (p := ⟨b1, o1 + j, none⟩) hbb).trans hcg0
          obtain ⟨b2, rfl, hb2lo, _, gc, _⟩ := HO.out.at_ (by omega)
          have hcx := gc k x 0 _ (pre_at (clPart_pre gs x j (clAt gs (roundsS n) k)) HX.out) rfl
          simp only [Nat.mul_one, Nat.add_zero] at hcx
          have hgN := HG.out g (List.mem_of_getElem? hgj)
          have hft := rowN_fits hxN hgN
          have hxs : x.size ≤ 16777216 := by rw [hxN.2]; omega
          have hgz : g.size ≤ 16777216 := by rw [hgN.2]; omega
          have hrN := hxN.times hgN
          have HS := Lib.hid (clPart_succ (x := x) (clAt gs (roundsS n) k) hgj)
          obtain ⟨r, hr'⟩ : ∃ r, r = timesS x g := ⟨_, rfl⟩
          have HRD := Lib.hid hr'
          have hkey := keyOf_string_mk (P := Try.prog) (k := 9) Try.underlying9 (s := r) (by rw [hr', hrN.2]; unfold maxLen; omega)
          have HKEY := Lib.hid hkey
          clear gc hgj hcg0 hkey hr'
          go_wp2_with fail
          refine (impl_times hxs hgz hft).mono ?_; rw [← HRD.out]; rintro e w4 ⟨rfl, hb4⟩
          clear hcx hcg hft
          have hB4 := below_go hb hb4
          have HM4 := Lib.hid (HM.out.up hb4)
          have HO4 := Lib.hid (HO.out.up hb4)
          have lk := HM4.out.look (t := 116) KS Try.underlying116 Try.underlying4 (by kernel_rfl) HKEY.out
          have mem : strV r ∈ keysS (clPart gs x j (clAt gs (roundsS n) k)) ↔ r ∈ clPart gs x j (clAt gs (roundsS n) k) := keysS_mem
          by_cases hin : r ∈ clPart gs x j (clAt gs (roundsS n) k)
          · have lk1 := lk.1 (mem.2 hin)
            have e1 := Lib.hid (show clPart gs x (j + 1) (clAt gs (roundsS n) k) = clPart gs x j (clAt gs (roundsS n) k) by rw [HS.out, clAdd_in (by rw [← HRD.out]; exact hin)])
            clear lk mem hin
            go_wp2
            go_roundw
            case rel => exact ⟨j + 1, _, _, by omega, by rw [e1.out]; exact hjm, by go_num, by rw [e1.out], Lib.hid (by rw [e1.out]; exact HM4.out), Lib.hid (by rw [e1.out]; exact HO4.out), hB4⟩
            case measure => simp [intOf]; omega
          · have lk1 := lk.2 (fun q => hin (mem.1 q))
            have e1 := Lib.hid (show clPart gs x (j + 1) (clAt gs (roundsS n) k) = clPart gs x j (clAt gs (roundsS n) k) ++ [r] by rw [HS.out, clAdd_new (by rw [← HRD.out]; exact hin), ← HRD.out])
            have hl1 := pre_len (HP.out (j + 1) (by omega))
            rw [e1.out, List.length_append, List.length_singleton] at hl1
            clear lk mem hin
            by_cases hmost : (clPart gs x j (clAt gs (roundsS n) k)).length = most
            · have hq : ((clPart gs x j (clAt gs (roundsS n) k)).length : Int) = (most : Int) := by omega
              have hno := Lib.hid (show ¬ (clF n gs).length ≤ most by omega)
              have hdec := Lib.hid (decide_eq_false hno.out)
              clear hmost
              go_wp2
              go_ret2
              rw [hdec.out]
              exact ⟨none, 0, 0, rfl, fun q => absurd q hno.out, fun _ => ⟨rfl, rfl, rfl⟩, hB4⟩
            · have hq : ¬ ((clPart gs x j (clAt gs (roundsS n) k)).length : Int) = (most : Int) := by omega
              have hno : b2 ≠ w.heap.size := by omega
              have hs4 := hb4.size
              have el : (clPart gs x j (clAt gs (roundsS n) k) ++ [r]).length = (clPart gs x j (clAt gs (roundsS n) k)).length + 1 := by simp
              have EL := Lib.hid el
              have hlm : (clPart gs x j (clAt gs (roundsS n) k)).length + 1 ≤ most := by omega
              clear hmost el
              go_wp2_with (first | (at_mapUpdate; go_must ((refine wpList_set_add rfl (.tmp 46) (.tmp 47) (.const (.bool true)) 116 rfl KS Try.underlying116 Try.underlying4 rfl HM4.out ?_ (key := strV r) rfl rfl HKEY.out ?_; (focus (first | omega | (simp only [World.size_alloc]; done) | (simp only [World.size_alloc]; omega) | (simp; done) | (simp; omega))); intro w5 hm5 hg5; have HO5 := Lib.hid (HO4.out.past hg5 (Nat.lt_succ_self _)); have hs5 := hg5.size))) | (at_builtin; go_must ((refine wpList_append_recs Try.elStr strE_one rfl (.tmp 48) (.tmp 50) rfl rfl (HO5.out.alloc _) rfl (own_lit1_at' strE_len w5 9 r rfl (Nat.le_refl _)).recs rfl ?_ (by decide) ?_ ?_; (focus (first | omega | (simp only [World.size_alloc]; done) | (simp only [World.size_alloc]; omega) | (simp; done) | (simp; omega))); (focus (first | omega | (simp only [World.size_alloc]; done) | (simp only [World.size_alloc]; omega) | (simp; done) | (simp; omega))); intro A3 c3 w6 ho6 hg6 hl6))))
              have hm6 := (hm5.alloc (.cells #[.string r] 9)).kept hg6 (fun e => by injection e with e; exact hno e.symm)
              have hb6 : Below w.heap.size w w6 := ((hB4.grown hg5 hB4.size (fun k hk => by injection hk with hk; omega)).alloc (by omega) _).trans (grown_base hg6 (by simp; omega) (fun k hk => by injection hk with hk; dsimp only at hk; omega))
              go_roundw
              case rel => exact ⟨j + 1, A3, c3, by omega, by rw [e1.out, EL.out]; omega, by go_num, by rw [e1.out, EL.out], Lib.hid (by rw [e1.out, EL.out, keysS_snoc]; exact hm6), Lib.hid (by rw [e1.out, EL.out]; exact ho6), hb6⟩
              case measure => simp [intOf]; omega
        · obtain rfl : j = gs.length := by omega
          have e1 := Lib.hid HNX.out.symm
          go_wp2
          go_roundw
          case rel => exact ⟨k + 1, A1, c1, by rw [HNX.out]; omega, by rw [HNX.out]; exact hjm, by go_num, by rw [HNX.out], Lib.hid (by rw [HNX.out]; exact HM.out), Lib.hid (by rw [HNX.out]; exact HO.out), hb⟩
          case measure => simp [intOf]; omega
    · have hke : (clAt gs (roundsS n) k).length = k := by omega
      have e1 := Lib.hid (HEND.out k hke)
      have hkp : 0 < (clAt gs (roundsS n) k).length := clAt_pos k
      obtain ⟨b2, rfl, hb2lo, hb2hi, _, _⟩ := HO.out.at_ hkp
      clear hke
      go_wp2_with fail
      refine (sort_strs HO.out (by omega)).mono ?_; rintro e w3 ⟨rfl, L, hoL, hpL, hsL, hg3⟩
      have hb3 : Below w.heap.size w w3 := hb.grown hg3 hb.size (fun k hk => by injection hk with hk; omega)
      go_wp2
      go_ret2
      rw [e1.out, decide_eq_true hkm]
      exact ⟨_, _, _, rfl, fun _ => ⟨rfl, L, hoL.base_le (Nat.le_succ _), hpL, hsL⟩, fun q => absurd hkm q, hb3⟩
end Go.Proofs.Ytpccbmndgdiloaa
/- The walks through the generators of changes for extents. -/
namespace Go.Proofs.Ytpccbmndgdiloaa
set_option linter.unusedVariables false
set_option linter.unusedSimpArgs false
open Go.ChangeShapes Go.WideShapes Go.ChangeAt Go.RowKit Go.Deep
theorem cur_fresh (w : World) (A : Option Addr) (n c : Nat) : Cur (w.alloc (.cells #[.slice A n c, .int .i64 0, .int .u64 0] 104)) w.heap.size A n c 0 :=
  ⟨0, 0, Blk.at_ w 104 [.slice A n c, .int .i64 0, .int .u64 0] rfl, Nat.le_refl _, by omega, by omega⟩
theorem Src.over {w w' : World} {A : Option Addr} {n : Nat} (h : Src w A n) (hb : Below w.heap.size w w') : Src w' A n := by
  obtain ⟨l, h1, h2, h3, h4⟩ := h
  exact ⟨l, h1, h2, h3, h4.up hb⟩
theorem cur_stage {A : Option Addr} {n c a p : Nat} {w0 w : World} (hS : Src w0 A n) (hb : Below w0.heap.size w0 w) (hp : w0.heap.size ≤ p) (hc : Cur w p A n c a) (ha : a ≤ 16777216) :
    Calls Try.prog 177 #[.pointer (some ⟨p, 0, none⟩)] w fun e w' => ∃ x : Nat, e = .returned (.int .i64 (x : Int)) ∧ 3 ≤ x ∧ x ≤ 8 ∧ Cur w' p A n c (a + 1) ∧ w.grownBy w' (some p) := by
  have hl := lit_ints w 3 [4, 4, 5, 5, 6, 6, 3, 7, 8]
  have hlt := hc.lt
  go_in
  go_wp2_with fail
  refine (cur_among hS (hb.alloc hb.size _) hp (hc.up ((Below.refl _ _).alloc (Nat.le_refl _) _)) ha rfl hl (by decide) (by decide) (fun b o e => by injection e with e; injection e with e; omega)).mono ?_; rintro e w1 ⟨x, hx, rfl, hc1, hg1⟩
  go_wp2
  go_ret
  simp only [List.mem_cons, List.not_mem_nil, or_false] at hx
  refine ⟨x.toNat, ?_, by omega, by omega, hc1, grownBy_trans (World.grownBy_alloc _ _ _) hg1⟩
  rw [show ((x.toNat : Nat) : Int) = x by omega]
  rfl
theorem chs_small {n : Nat} {L : List ByteArray} (hn : n ≤ 8) (h : L.Perm (chsRaw n)) : L.length ≤ 34 ∧ ∀ s ∈ L, s.size ≤ 8 := by
  constructor
  · rw [h.length_eq, chsRaw]
    refine Nat.le_trans (List.length_filter_le _ _) ?_
    rw [List.length_map]; exact fromK_le hn 1
  · intro s hs
    have h1 := (h.mem_iff).1 hs
    rw [chsRaw, List.mem_filter] at h1
    rcases q : sizeOk n s
    · have := h1.2; rw [goodChange_size q] at this; cases this
    · have := sizeOk_t q; omega
set_option maxHeartbeats 2000000 in
set_option maxRecDepth 100000 in
theorem cur_with {A : Option Addr} {n c a p N : Nat} {w0 w : World} (hS : Src w0 A n) (hb : Below w0.heap.size w0 w) (hp : w0.heap.size ≤ p) (hc : Cur w p A n c a) (ha : a ≤ 1000000) (hN : N ≤ 8) :
    Calls Try.prog 98 #[.pointer (some ⟨p, 0, none⟩), .int .i64 N] w fun e w' => ∃ A' m c' L, e = .returned (.slice A' m c') ∧ m ≤ 34 ∧ (∀ s ∈ L, s.size ≤ 8) ∧ Owned strE 1 9 w' w.heap.size A' m c' L ∧ Cur w' p A n c (a + 100) ∧ w.grownBy w' (some p) := by
  have hpw := hc.lt
  go_in
  go_wp2_with fail
  refine (spec_l2All hN).mono ?_; rintro e w1 ⟨A1, c1, L, rfl, ho1, hperm, hb1⟩
  have hsm := chs_small hN hperm
  have HSM := Lib.hid hsm.2
  have hlen := hsm.1
  have HL := Lib.hid ho1
  have hsz1 := hb1.size
  have hc1 := hc.up hb1
  have G1 : Hid (∀ u : World, w1.grownBy u (some p) → Below w0.heap.size w0 u) := Lib.hid (fun u hg => grown_below hb hp (grownBy_trans (grown_any hb1 _) hg))
  have G2 : Hid (∀ u : World, w1.grownBy u (some p) → w.grownBy u (some p)) := Lib.hid (fun u hg => grownBy_trans (grown_any hb1 _) hg)
  have HS := Lib.hid hS
  clear hb hc ho1 hperm hsm hb1 hS
  go_wp2
  go_loopw [5, 11] (fun v i wr => ∃ (k m : Nat) (A' : Option Addr) (c' : Nat) (L' : List ByteArray), k ≤ L.length ∧ i = .int .i64 k ∧ v = .slice A' m c' ∧ m ≤ k ∧ Hid (∀ s ∈ L', s.size ≤ 8) ∧ Hid (Owned strE 1 9 wr w1.heap.size A' m c' L') ∧ Hid (Cur wr p A n c (a + k)) ∧ Hid (w1.grownBy wr (some p))) (fun _ i _ => L.length - (intOf i).toNat)
  case atStart => exact ⟨0, 0, none, 0, [], Nat.zero_le _, rfl, rfl, Nat.le_refl _, Lib.hid (fun s hs => by cases hs), Lib.hid (Owned.nil strE_len _ _ _), Lib.hid (hc1.mono (by omega)), Lib.hid (grown_any (Below.refl _ _) _)⟩
  case round =>
    obtain ⟨k, m, A2, c2, L2, hk, rfl, rfl, hmk, HZ, HO, HC, HG⟩ := hrel
    rename World => wr
    by_cases hlt : k < L.length
    · have hst := (HL.out.past HG.out hpw).recs
      obtain ⟨b3, o3, y, rfl, hbb, hy, hcy⟩ := hst.at_str hlt
      have hyz := HSM.out y (List.mem_of_getElem? hy)
      clear hy hst
      go_wp2_with fail
      refine (cur_one HS.out (G1.out _ HG.out) hp HC.out (by omega) (by decide) (by decide)).mono ?_; rintro e w4 ⟨b, rfl, hc4, hg4⟩
      have HO4 := Lib.hid (HO.out.past hg4 (by omega))
      have HC4 := Lib.hid hc4
      have HG4 := Lib.hid (grownBy_trans HG.out hg4)
      have hs4 := HG4.out.size
      clear hc4 hg4 hcy
      rcases b
      · go_wp2_with (first | (at_builtin; go_must ((refine wpList_append_recs Try.elStr strE_one rfl (.tmp 18) (.tmp 20) rfl rfl (HO4.out.alloc _) rfl (own_lit1_at' strE_len _ 9 y rfl (Nat.le_refl _)).recs rfl ?_ (by decide) ?_ ?_; (focus (first | omega | (simp only [World.size_alloc]; done) | (simp only [World.size_alloc]; omega) | (simp; done) | (simp; omega))); (simp; omega); intro A3 c3 w6 ho6 hg6 hl6; have HO6 := Lib.hid ho6; have HC6 := Lib.hid ((HC4.out.up ((Below.refl _ _).alloc (Nat.le_refl _) _)).grown hg6 (fun e => by have := (HO4.out.blk e.symm).1; omega)); have HG6 := Lib.hid (grow_own (grownBy_trans HG4.out (World.grownBy_alloc _ _ _)) hg6 (fun k hk => (HO4.out.blk hk).1)); clear ho6 hg6 hl6))))
        go_roundw
        case rel => exact ⟨k + 1, m + 1, A3, c3, L2 ++ [y], by omega, by go_num, by go_num, by omega, Lib.hid (fun s hs => by
            rcases List.mem_append.1 hs with hs | hs
            · exact HZ.out s hs
            · rw [List.mem_singleton.1 hs]; exact hyz), HO6, Lib.hid (HC6.out.mono (by omega)), HG6⟩
        case measure => simp [intOf]; omega
      · go_wp2
        go_roundw
        case rel => exact ⟨k + 1, m, A2, c2, L2, by omega, by go_num, rfl, by omega, HZ, HO4, Lib.hid (HC4.out.mono (by omega)), HG4⟩
        case measure => simp [intOf]; omega
    · obtain rfl : k = L.length := by omega
      have hsr := HG.out.size
      by_cases hm0 : 0 < m
      · have hI : (0 : Int) < (m : Int) := by omega
        have hL2 := HO.out.len
        go_wp2_with fail
        refine (cur_one HS.out (G1.out _ HG.out) hp HC.out (by omega) (by decide) (by decide)).mono ?_; rintro e w4 ⟨b, rfl, hc4, hg4⟩
        have HO4 := Lib.hid (HO.out.past hg4 (by omega))
        have HC4 := Lib.hid hc4
        have HG4 := Lib.hid (grownBy_trans HG.out hg4)
        clear hc4 hg4
        rcases b
        · go_wp2
          go_ret
          exact ⟨_, _, _, L2, rfl, by omega, HZ.out, HO4.out.base_le hsz1, HC4.out.mono (by omega), G2.out _ HG4.out⟩
        · obtain ⟨f, rfl, f0, f1, fc, ff⟩ := HO4.out.at_ (by omega)
          obtain ⟨y, hy⟩ := some_of_lt (l := L2) (k := 0) (by omega)
          have cf := fc 0 y 0 _ hy rfl
          have zf := ff 0
          simp only [Nat.mul_one, Nat.add_zero, Nat.zero_mul] at cf
          have pt := HO4.out.put (k := 0) (j := 0) (x := ⟨#[120]⟩) (u := .string ⟨#[120]⟩) hy (by decide) rfl
          simp only [Nat.mul_one, Nat.add_zero, Nat.zero_mul] at pt
          have HPT := Lib.hid pt
          clear fc ff hy pt
          go_wp2
          go_ret
          exact ⟨_, _, _, L2.set 0 ⟨#[120]⟩, rfl, by omega, fun s hs => by
            rcases List.mem_or_eq_of_mem_set hs with hs | hs
            · exact HZ.out s hs
            · rw [hs]; decide, HPT.out.1.base_le hsz1, (HC4.out.grown HPT.out.2 (fun e => by injection e with e; omega)).mono (by omega), G2.out _ (grow_own HG4.out HPT.out.2 (fun k e => by injection e with e; omega))⟩
      · have hI : ¬ (0 : Int) < (m : Int) := by omega
        obtain rfl : m = 0 := by omega
        go_wp2
        go_ret
        exact ⟨_, _, _, rfl, by omega, L2, HZ.out, HO.out.base_le hsz1, HC.out.mono (by omega), G2.out _ HG.out⟩
set_option maxHeartbeats 1000000 in
set_option maxRecDepth 100000 in
theorem draw_FindExtent {A : Option Addr} {n c : Nat} {w : World} (hS : Src w A n) :
    Calls Try.prog 31 #[.slice A n c] w fun e w' => ∃ (N : Nat) (A1 : Option Addr) (n1 c1 : Nat) (l1 : List ByteArray) (s : Int), e = .returned (.tuple #[.int .i64 N, .slice A1 n1 c1, .int .i64 s]) ∧ l1.length = n1 ∧ n1 ≤ 34 ∧ (∀ s ∈ l1, s.size ≤ 16777216) ∧ Strs w' A1 l1 ∧ 0 ≤ s ∧ s ≤ 200001 ∧ N ≤ 5 ∧ Below w.heap.size w w' := by
  have b0 : Below w.heap.size w (w.alloc (.cells #[.slice A n c, .int .i64 0, .int .u64 0] 104)) := by (repeat' (first | (with_reducible exact Below.refl _ _) | (with_reducible assumption) | (with_reducible refine below_drewN ?_ _) | (with_reducible refine Below.drew ?_) | (with_reducible refine below_alloc ?_ _) | (with_reducible refine Below.alloc ?_ ?_ _) | (with_reducible refine Below.setCell ?_ ?_ _) | (with_reducible refine below_go ?_ (by with_reducible assumption)) | (with_reducible refine below_then (by with_reducible assumption) ?_ ?_) | go_size))
  have c0 := cur_fresh w A n c
  go_in
  go_wp2_with fail
  obtain ⟨w1, hw1⟩ : ∃ u, u = w.alloc (.cells #[.slice A n c, .int .i64 0, .int .u64 0] 104) := ⟨_, rfl⟩
  rw [← hw1] at b0 c0 ⊢
  clear hw1
  refine (cur_pick hS b0 (Nat.le_refl _) c0 (by omega) (by omega) (by omega)).mono ?_; rintro e w2 ⟨x, rfl, ⟨x0, x1⟩, hc2, hg2⟩
  have hB2 := grown_below b0 (Nat.le_refl _) hg2
  obtain ⟨X, rfl⟩ := Int.eq_ofNat_of_zero_le x0
  go_wp2_with fail
  refine (cur_pick hS hB2 (Nat.le_refl _) hc2 (by omega) (by omega) (by omega)).mono ?_; rintro e w3 ⟨y, rfl, ⟨y0, y1⟩, hc3, hg3⟩
  have hB3 := grown_below hB2 (Nat.le_refl _) hg3
  obtain ⟨Y, rfl⟩ := Int.eq_ofNat_of_zero_le y0
  have hX : X ≤ 1 := by omega
  have hY : Y ≤ 19 := by omega
  clear x0 x1 y0 y1 hg2 hg3 hB2 hc2
  have ew : IntKind.i64.wrap ((Y : Int) / 19) = (Y : Int) / 19 := wrap_id (by omega)
  have hN : 3 + X + Y / 19 ≤ 5 := by omega
  go_wp2_with fail
  have hadd : (3 : Int) + (X : Int) + (Y : Int) / 19 = ((3 + X + Y / 19 : Nat) : Int) := by omega
  first | rw [hadd] | skip
  refine (cur_with (N := 3 + X + Y / 19) hS hB3 (Nat.le_refl _) hc3 (by omega) (by omega)).mono ?_; rintro e w4 ⟨A4, m, c4, L, rfl, hm, hz, ho, hc4, hg4⟩
  have hB4 := grown_below hB3 (Nat.le_refl _) hg4
  have hl := lit_ints w4 3 [1, 50, 500, 2000, 2000, 200001]
  have hlt := hc4.lt
  have hsz3 := hB3.size
  have ha4 : w4.grownBy (w4.alloc (.cells ⟨([1, 50, 500, 2000, 2000, 200001] : List Int).map fun x => Value.int .i64 x⟩ 3)) (some w.heap.size) := World.grownBy_alloc _ _ _
  go_wp2_with fail
  refine (cur_among hS (hB4.alloc hB4.size _) (Nat.le_refl _) (hc4.up ((Below.refl _ _).alloc (Nat.le_refl _) _)) (by omega) rfl hl (by decide) (by decide) (fun b o e => by injection e with e; injection e with e; omega)).mono ?_; rintro e w5 ⟨s, hs, rfl, hc5, hg5⟩
  have hg6 := grownBy_trans ha4 hg5
  go_wp2
  refine bodyPost_ret (v := .tuple #[.int .i64 ((3 + X + Y / 19 : Nat) : Int), .slice A4 m c4, .int .i64 s]) (by simp [results, Try.results31, go_sem] <;> (try constructor) <;> exact (Ending.returned.inj (by assumption)).symm) rfl ?_
  simp only [List.mem_cons, List.not_mem_nil, or_false] at hs
  exact ⟨3 + X + Y / 19, A4, m, c4, L, s, rfl, ho.len, hm, fun s hs => Nat.le_trans (hz s hs) (by decide), (ho.past hg6 hc3.lt).recs, by omega, by omega, hN, grown_below hB4 (Nat.le_refl _) hg6⟩
end Go.Proofs.Ytpccbmndgdiloaa
/- The walks through the generators of changes and methods. -/
namespace Go.Proofs.Ytpccbmndgdiloaa
set_option linter.unusedVariables false
set_option linter.unusedSimpArgs false
open Go.ChangeShapes Go.WideShapes Go.ChangeAt Go.RowKit Go.Deep
theorem lit_strs2 (w : World) (t : TypeId) (l : List ByteArray) : Strs (w.alloc (.cells ⟨l.map Value.string⟩ t)) (some ⟨w.heap.size, 0, none⟩) l := by
  refine ⟨strE_len, by rw [flatMap_len strE_len], fun hn => ⟨w.heap.size, 0, rfl, by simp, fun j u hu => ?_⟩⟩
  have h := Box.new w (l.map Value.string) t
  rw [Nat.zero_add]
  refine h j u ?_
  rw [← hu]
  congr 1
  exact (flatMap_one Value.string l).symm
theorem cur_of {A B : Option Addr} {n c a p m d : Nat} {l : List ByteArray} {w0 w : World} (hS : Src w0 A n) (hb : Below w0.heap.size w0 w) (hp : w0.heap.size ≤ p) (hc : Cur w p A n c a) (ha : a ≤ 16777216) (hm : l.length = m) (hl : Strs w B l) (hm0 : 0 < m) (hm1 : m ≤ 200) (hne : ∀ b o, B = some ⟨b, o, none⟩ → b ≠ p) :
    Calls Try.prog 155 #[.pointer (some ⟨p, 0, none⟩), .slice B m d] w fun e w' => ∃ x ∈ l, e = .returned (.string x) ∧ Cur w' p A n c (a + 1) ∧ w.grownBy w' (some p) := by
  subst hm
  go_in
  go_wp2_with fail
  refine (cur_pick hS hb hp hc ha (by omega) (by omega)).mono ?_; rintro e w1 ⟨x, rfl, ⟨x0, x1⟩, hc1, hg1⟩
  obtain ⟨k, rfl⟩ := Int.eq_ofNat_of_zero_le x0
  have hk : k < l.length := by omega
  obtain ⟨b, o, y, rfl, hbb, hy, hcy⟩ := hl.at_str hk
  have hcz : w1.cell? ⟨b, o + k, none⟩ = some (.string y) := (hg1.cell_far ⟨b, o + k, none⟩ hbb (fun e => hne b o rfl (by injection e))).trans hcy
  have HY := Lib.hid hy
  clear hy hl hcy x1
  go_wp2
  go_ret
  exact ⟨y, List.mem_of_getElem? HY.out, rfl, hc1, hg1⟩
theorem chsRaw_pos : ∀ n : Nat, n < 9 → 3 ≤ n → 1 ≤ (chsRaw n).length := by decide +kernel
set_option maxRecDepth 100000 in
theorem cur_change {A : Option Addr} {n c a p N : Nat} {w0 w : World} (hS : Src w0 A n) (hb : Below w0.heap.size w0 w) (hp : w0.heap.size ≤ p) (hc : Cur w p A n c a) (ha : a ≤ 16777216) (hN : N ≤ 8) (hN3 : 3 ≤ N) :
    Calls Try.prog 190 #[.pointer (some ⟨p, 0, none⟩), .int .i64 N] w fun e w' => ∃ x, e = .returned (.string x) ∧ goodChange N x = true ∧ x.size ≤ 8 ∧ Cur w' p A n c (a + 1) ∧ w.grownBy w' (some p) := by
  have hpw := hc.lt
  go_in
  go_wp2_with fail
  refine (spec_l2All hN).mono ?_; rintro e w1 ⟨A1, c1, L, rfl, ho1, hperm, hb1⟩
  have hsm := chs_small hN hperm
  have hlen := hsm.1
  have hpos : 1 ≤ L.length := by rw [hperm.length_eq]; exact chsRaw_pos N (by omega) hN3
  have HSM := Lib.hid hsm.2
  have HPM := Lib.hid (fun x (hx : x ∈ L) => show goodChange N x = true from by
    have h1 := (hperm.mem_iff).1 hx
    rw [chsRaw, List.mem_filter] at h1
    exact h1.2)
  clear hperm hsm
  go_wp2_with fail
  refine (cur_pick hS (grown_below hb hp (grown_any hb1 _)) hp (hc.up hb1) ha (by omega) (by omega)).mono ?_; rintro e w2 ⟨x, rfl, ⟨x0, x1⟩, hc2, hg2⟩
  obtain ⟨k, rfl⟩ := Int.eq_ofNat_of_zero_le x0
  have hk : k < L.length := by omega
  obtain ⟨b, o, y, rfl, hbb, hy, hcy⟩ := (ho1.past hg2 hpw).recs.at_str hk
  have HY := Lib.hid (List.mem_of_getElem? hy)
  clear hy x1
  go_wp2
  go_ret
  exact ⟨y, rfl, HPM.out y HY.out, HSM.out y HY.out, hc2, grownBy_trans (grown_any hb1 _) hg2⟩
theorem goodM_of {nm : ByteArray} {st : Nat} {L : List ByteArray} (h1 : nameOk nm = true) (h2 : 3 ≤ st) (h3 : st ≤ 8) (h4 : 1 ≤ L.length) (h5 : L.length ≤ 40) (h6 : ∀ x ∈ L, goodChange st x = true) : goodM nm st L = true := by
  have e1 : inB (st : Int) 3 8 = true := by simp [inB]; omega
  have e2 : inB (L.length : Int) 1 40 = true := by simp [inB]; omega
  have e3 : allCh st L = true := by
    rw [allCh, List.all_eq_true]
    intro k hk
    obtain ⟨x, hx⟩ := some_of_lt (List.mem_range.1 hk)
    rw [okCh_at hx]
    exact h6 x (List.mem_of_getElem? hx)
  rw [goodM, h1, e1, e2, e3]; rfl
theorem hunt_one : ∀ n : Nat, n < 9 → 3 ≤ n → n % 2 = 0 → goodChange n ⟨#[45]⟩ = true ∧ goodChange n (⟨#[49]⟩ ++ dig1 n) = true ∧ goodChange n ⟨#[49, 50]⟩ = true := by decide +kernel
theorem hunt_two : ∀ n : Nat, n < 9 → 5 ≤ n → n % 2 = 1 → goodChange n (dig1 n) = true ∧ goodChange n ⟨#[49]⟩ = true ∧ goodChange n (⟨#[49, 50]⟩ ++ dig1 n) = true := by decide +kernel
set_option maxHeartbeats 2000000 in
set_option maxRecDepth 100000 in
theorem spec_l4Hunting {N : Nat} {s : ByteArray} {w : World} (hN : N ≤ 8) (hN4 : 4 ≤ N) (hs : goodChange N s = true) :
    Calls Try.prog 221 #[.int .i64 N, .string s] w fun e w' => ∃ A' c' L, e = .returned (.slice A' (2 * N) c') ∧ Owned strE 1 9 w' w.heap.size A' (2 * N) c' L ∧ (∀ x ∈ L, goodChange N x = true) ∧ Below w.heap.size w w' := by
  have HS := Lib.hid hs
  have hd1 : (dig1 (N : Int)).size = 1 := rfl
  clear hs
  rcases Nat.mod_two_eq_zero_or_one N with hpar | hpar
  · have HH := Lib.hid (hunt_one N (by omega) (by omega) hpar)
    have hI : ¬ ((N : Int) % 2 = 1) := by omega
    have hpe : ((N : Int) % 2 == 1) = false := by simpa using hI
    go_in
    go_wp2_with fail
    refine (spec_l1Num_1 (by omega) (by omega)).mono ?_; rintro e w1 ⟨rfl, hb1⟩
    go_wp2
    go_loopw [7, 8] (fun v i wr => ∃ (k : Nat) (A' : Option Addr) (c' : Nat) (O : List ByteArray), k ≤ N ∧ i = .int .i64 k ∧ v = .slice A' (2 * k) c' ∧ Hid (∀ x ∈ O, goodChange N x = true) ∧ Hid (Owned strE 1 9 wr w.heap.size A' (2 * k) c' O) ∧ Below w.heap.size w wr) (fun _ i _ => N - (intOf i).toNat)
    case atStart => exact ⟨0, none, 0, [], Nat.zero_le _, rfl, rfl, Lib.hid (fun s hs => by cases hs), Lib.hid (Owned.nil strE_len _ _ _), hb1⟩
    case round =>
      obtain ⟨k, A2, c2, O, hk, rfl, rfl, HZ, HO, hbr⟩ := hrel
      rename World => wr
      have hszr := hbr.size
      by_cases hlt : k < N
      · have HG2 := Lib.hid (show ∀ x ∈ O ++ [⟨#[45]⟩, ⟨#[49]⟩ ++ dig1 N], goodChange N x = true from fun x hx => by
          rcases List.mem_append.1 hx with hx | hx
          · exact HZ.out x hx
          · simp only [List.mem_cons, List.not_mem_nil, or_false] at hx
            rcases hx with rfl | rfl
            · exact HH.out.1
            · exact HH.out.2.1)
        have hl2 := lit_strs2 wr 9 [⟨#[45]⟩, ⟨#[49]⟩ ++ dig1 N]
        go_wp2_with (first | (at_builtin; go_must ((refine wpList_append_recs Try.elStr strE_one rfl (.tmp 22) (.tmp 25) rfl rfl (HO.out.alloc _) rfl hl2 rfl ?_ (by decide) ?_ ?_; (focus (first | omega | (simp only [World.size_alloc]; done) | (simp only [World.size_alloc]; omega) | (simp; done) | (simp; omega))); (simp; omega); intro A3 c3 w6 ho6 hg6 hl6; have hb6 : Below w.heap.size w w6 := (hbr.alloc hszr _).trans (grown_base hg6 (by simp; omega) (fun z hz => (HO.out.range z hz).1))))))
        go_roundw
        case rel => exact ⟨k + 1, A3, c3, O ++ [⟨#[45]⟩, ⟨#[49]⟩ ++ dig1 N], by omega, by go_num, by go_num, HG2, Lib.hid ho6, hb6⟩
        case measure => simp [intOf]; omega
      · obtain rfl : k = N := by omega
        obtain ⟨g, rfl, g0, g1, gc, gf⟩ := HO.out.at_ (by omega)
        have hOl := HO.out.len
        obtain ⟨y, hy⟩ := some_of_lt (l := O) (k := 2 * k - 1) (by omega)
        have c0 := gc (2 * k - 1) y 0 _ hy rfl
        have f0 := gf (2 * k - 1)
        simp only [Nat.mul_one, Nat.add_zero] at c0
        have pt := HO.out.put (k := 2 * k - 1) (j := 0) (x := s) (u := .string s) hy (by decide) rfl
        simp only [Nat.mul_one, Nat.add_zero] at pt
        have HPT := Lib.hid pt
        have HGS := Lib.hid (show ∀ x ∈ O.set (2 * k - 1) s, goodChange k x = true from fun x hx => by
          rcases List.mem_or_eq_of_mem_set hx with hx | hx
          · exact HZ.out x hx
          · rw [hx]; exact HS.out)
        have hJ : (2 : Int) * (k : Int) - 1 = ((2 * k - 1 : Nat) : Int) := by omega
        have hJ2 : ((2 * k : Nat) : Int) - 1 = ((2 * k - 1 : Nat) : Int) := by omega
        have hJ3 : ((2 * k - 1 : Nat) : Int) < ((2 * k : Nat) : Int) := by omega
        clear gc gf hy pt
        go_wp2
        go_ret
        exact ⟨_, _, O.set (2 * k - 1) s, rfl, HPT.out.1, HGS.out, hbr.grown HPT.out.2 hszr (fun z hz => by injection hz with hz; omega)⟩
  · have HH := Lib.hid (hunt_two N (by omega) (by omega) hpar)
    have hI : (N : Int) % 2 = 1 := by omega
    have hpe : ((N : Int) % 2 == 1) = true := by simpa using hI
    go_in
    go_wp2_with fail
    refine (spec_l1Num_1 (by omega) (by omega)).mono ?_; rintro e w1 ⟨rfl, hb1⟩
    go_wp2_with fail
    refine (spec_l1Num_1 (by omega) (by omega)).mono ?_; rintro e w2 ⟨rfl, hb2⟩
    have hB2 := below_go hb1 hb2
    go_wp2
    go_loopw [7, 8] (fun v i wr => ∃ (k : Nat) (A' : Option Addr) (c' : Nat) (O : List ByteArray), k ≤ N ∧ i = .int .i64 k ∧ v = .slice A' (2 * k) c' ∧ Hid (∀ x ∈ O, goodChange N x = true) ∧ Hid (Owned strE 1 9 wr w.heap.size A' (2 * k) c' O) ∧ Below w.heap.size w wr) (fun _ i _ => N - (intOf i).toNat)
    case atStart => exact ⟨0, none, 0, [], Nat.zero_le _, rfl, rfl, Lib.hid (fun s hs => by cases hs), Lib.hid (Owned.nil strE_len _ _ _), hB2⟩
    case round =>
      obtain ⟨k, A2, c2, O, hk, rfl, rfl, HZ, HO, hbr⟩ := hrel
      rename World => wr
      have hszr := hbr.size
      by_cases hlt : k < N
      · have HG2 := Lib.hid (show ∀ x ∈ O ++ [dig1 N, ⟨#[49]⟩], goodChange N x = true from fun x hx => by
          rcases List.mem_append.1 hx with hx | hx
          · exact HZ.out x hx
          · simp only [List.mem_cons, List.not_mem_nil, or_false] at hx
            rcases hx with rfl | rfl
            · exact HH.out.1
            · exact HH.out.2.1)
        have hl2 := lit_strs2 wr 9 [dig1 N, ⟨#[49]⟩]
        go_wp2_with (first | (at_builtin; go_must ((refine wpList_append_recs Try.elStr strE_one rfl (.tmp 22) (.tmp 25) rfl rfl (HO.out.alloc _) rfl hl2 rfl ?_ (by decide) ?_ ?_; (focus (first | omega | (simp only [World.size_alloc]; done) | (simp only [World.size_alloc]; omega) | (simp; done) | (simp; omega))); (simp; omega); intro A3 c3 w6 ho6 hg6 hl6; have hb6 : Below w.heap.size w w6 := (hbr.alloc hszr _).trans (grown_base hg6 (by simp; omega) (fun z hz => (HO.out.range z hz).1))))))
        go_roundw
        case rel => exact ⟨k + 1, A3, c3, O ++ [dig1 N, ⟨#[49]⟩], by omega, by go_num, by go_num, HG2, Lib.hid ho6, hb6⟩
        case measure => simp [intOf]; omega
      · obtain rfl : k = N := by omega
        obtain ⟨g, rfl, g0, g1, gc, gf⟩ := HO.out.at_ (by omega)
        have hOl := HO.out.len
        obtain ⟨y, hy⟩ := some_of_lt (l := O) (k := 2 * k - 1) (by omega)
        have c0 := gc (2 * k - 1) y 0 _ hy rfl
        have f0 := gf (2 * k - 1)
        simp only [Nat.mul_one, Nat.add_zero] at c0
        have pt := HO.out.put (k := 2 * k - 1) (j := 0) (x := s) (u := .string s) hy (by decide) rfl
        simp only [Nat.mul_one, Nat.add_zero] at pt
        have HPT := Lib.hid pt
        have HGS := Lib.hid (show ∀ x ∈ O.set (2 * k - 1) s, goodChange k x = true from fun x hx => by
          rcases List.mem_or_eq_of_mem_set hx with hx | hx
          · exact HZ.out x hx
          · rw [hx]; exact HS.out)
        have hJ : (2 : Int) * (k : Int) - 1 = ((2 * k - 1 : Nat) : Int) := by omega
        have hJ2 : ((2 * k : Nat) : Int) - 1 = ((2 * k - 1 : Nat) : Int) := by omega
        have hJ3 : ((2 * k - 1 : Nat) : Int) < ((2 * k : Nat) : Int) := by omega
        clear gc gf hy pt
        go_wp2
        go_ret
        exact ⟨_, _, O.set (2 * k - 1) s, rfl, HPT.out.1, HGS.out, hbr.grown HPT.out.2 hszr (fun z hz => by injection hz with hz; omega)⟩
end Go.Proofs.Ytpccbmndgdiloaa
/- Rows that are taken out of rounds bell by bell, in plain Lean. -/
namespace Go.Proofs.Ytpccbmndgdiloaa
set_option linter.unusedVariables false
set_option linter.unusedSimpArgs false
theorem nums_data (s : ByteArray) : nums s = s.data.toList.map fun b => (b.toNat : Int) := by
  apply List.ext_getElem
  · rw [nums_len, List.length_map, Array.length_toList]; rfl
  · intro j h1 h2
    have hj : j < s.size := by rwa [nums_len] at h1
    have h := nums_at hj
    rw [List.getElem?_eq_getElem h1] at h
    injection h with h
    rw [h, PlainAid.bt, dif_pos hj, List.getElem_map, Array.getElem_toList]
    rfl
theorem nums_app (a b : ByteArray) : nums (a ++ b) = nums a ++ nums b := by
  rw [nums_data, nums_data, nums_data, ByteArray.data_append, Array.toList_append, List.map_append]
theorem nums_ext (s : ByteArray) (i j : Nat) : nums (s.extract i j) = ((nums s).drop i).take (j - i) := by
  rw [nums_data, nums_data, Lib.extract_data, List.map_take, List.map_drop]
theorem cut_perm {R O : List Int} {i : Nat} (h : i < R.length) : ((O ++ [R[i]]) ++ (R.take i ++ R.drop (i + 1))).Perm (O ++ R) := by
  rw [List.append_assoc]
  apply List.Perm.append_left
  have e : R = R.take i ++ R[i] :: R.drop (i + 1) := by rw [← List.drop_eq_getElem_cons h, List.take_append_drop]
  rw [List.singleton_append]
  conv => rhs; rw [e]
  exact List.perm_middle.symm
/-- What is out and what is left are together the bells of rounds. -/
def RowSt (n : Nat) (out rest : ByteArray) : Prop := (nums out ++ nums rest).Perm (nums (roundsS n))
theorem RowSt.sizes {n : Nat} {out rest : ByteArray} (h : RowSt n out rest) (hn : n ≤ 8) : out.size + rest.size = n := by
  have := h.length_eq
  rw [List.length_append, nums_len, nums_len, nums_len, rounds_size n (by omega)] at this
  exact this
theorem RowSt.step {n i : Nat} {out rest : ByteArray} (h : RowSt n out rest) (hi : i < rest.size) : RowSt n (out ++ rest.extract i (i + 1)) (rest.extract 0 i ++ rest.extract (i + 1) rest.size) := by
  have hl : i < (nums rest).length := by rw [nums_len]; exact hi
  have e1 : nums (rest.extract i (i + 1)) = [(nums rest)[i]] := by
    rw [nums_ext, List.drop_eq_getElem_cons hl, show i + 1 - i = 0 + 1 by omega, List.take_succ_cons, List.take_zero]
  have e2 : nums (rest.extract 0 i) = (nums rest).take i := by rw [nums_ext, List.drop_zero, Nat.sub_zero]
  have e3 : nums (rest.extract (i + 1) rest.size) = (nums rest).drop (i + 1) := by
    rw [nums_ext, List.take_of_length_le]
    rw [List.length_drop, nums_len]
    exact Nat.le_refl _
  rw [RowSt, nums_app, nums_app, e1, e2, e3]
  exact (cut_perm hl).trans h
theorem RowSt.done {n : Nat} {out rest : ByteArray} (h : RowSt n out rest) (h3 : 3 ≤ n) (h8 : n ≤ 8) (h0 : rest.size = 0) : goodRow out = true ∧ out.size = n := by
  have hs := h.sizes h8
  have e : nums rest = [] := List.length_eq_zero_iff.1 (by rw [nums_len]; exact h0)
  have hp : (nums out).Perm (nums (roundsS n)) := by rw [RowSt, e, List.append_nil] at h; exact h
  have hr := goodRow_list (good_rounds n (by omega) h3)
  have ho : out.size = n := by omega
  refine ⟨goodRow_of (by omega) ⟨hp.nodup_iff.2 hr.1, fun z hz => ?_⟩, ho⟩
  have := hr.2 z (hp.mem_iff.1 hz)
  rw [hp.length_eq]
  exact this
theorem RowSt.start (n : Nat) : RowSt n ⟨#[]⟩ (roundsS n) := by
  have e : nums (⟨#[]⟩ : ByteArray) = [] := List.length_eq_zero_iff.1 (by rw [nums_len]; rfl)
  rw [RowSt, e, List.nil_append]
theorem div_lt_of {k f r : Nat} (h : k < r * f) (_hf : 0 < f) : k / f < r := Nat.div_lt_of_lt_mul (by rw [Nat.mul_comm]; exact h)
end Go.Proofs.Ytpccbmndgdiloaa
/- The walks through draws of rows and of lists of rows. -/
namespace Go.Proofs.Ytpccbmndgdiloaa
set_option linter.unusedVariables false
set_option linter.unusedSimpArgs false
open Go.ChangeShapes Go.WideShapes Go.ChangeAt Go.RowKit Go.Deep
set_option maxRecDepth 100000 in
theorem cur_pickL {A : Option Addr} {n c a p : Nat} {N : Int} {w0 w : World} (hS : Src w0 A n) (hb : Below w0.heap.size w0 w) (hp : w0.heap.size ≤ p) (hc : Cur w p A n c a) (ha : a ≤ 10000000) (hN : N ≤ 50000) (hN0 : -1000 ≤ N) :
    Calls Try.prog 97 #[.pointer (some ⟨p, 0, none⟩), .int .i64 N] w fun e w' => ∃ x : Int, e = .returned (.int .i64 x) ∧ upTo N x ∧ Cur w' p A n c (a + 2) ∧ w.grownBy w' (some p) := by
  by_cases h2 : N ≤ 200
  · refine (cur_pick hS hb hp hc (by omega) h2 hN0).mono ?_; rintro e w1 ⟨x, rfl, hx, hc1, hg1⟩
    exact ⟨x, rfl, hx, hc1.mono (by omega), hg1⟩
  · have G : Hid (∀ u : World, w.grownBy u (some p) → Below w0.heap.size w0 u) := Lib.hid (fun u hg => grown_below hb hp hg)
    have hI : (200 : Int) < N := by omega
    have hI1 : ¬ N ≤ 1 := by omega
    have hN1 : ¬ N = 0 := by omega
    go_in
    go_wp2_with fail
    refine (cur_next hS hb hp hc (by omega)).mono ?_; rintro e w1 ⟨x, rfl, x0, x1, hc1, hg1⟩
    go_wp2_with fail
    refine (cur_next hS (G.out _ hg1) hp hc1 (by omega)).mono ?_; rintro e w2 ⟨y, rfl, y0, y1, hc2, hg2⟩
    have hm : (x * 256 + y).tmod N = (x * 256 + y) % N := Int.tmod_eq_emod_of_nonneg (by omega)
    have m0 := Int.emod_nonneg (x * 256 + y) hN1
    have m1 := Int.emod_lt_of_pos (x * 256 + y) (show 0 < N by omega)
    go_wp2
    go_ret
    exact ⟨_, rfl, ⟨m0, .inl m1⟩, hc2, grownBy_trans hg1 hg2⟩
def txLen : Value → Nat
  | .string s => s.size
  | _ => 0
set_option maxHeartbeats 1000000 in
set_option maxRecDepth 100000 in
theorem spec_RowOf {n k : Nat} {w : World} (h3 : 3 ≤ n) (h8 : n ≤ 8) (hk : k < fact n) :
    Calls Try.prog 215 #[.int .i64 n, .int .i64 k] w fun e w' => ∃ r, e = .returned (.tuple #[.string r, .bool true]) ∧ RowN n r ∧ Below w.heap.size w w' := by
  have hfn := fact_le8 h8
  have HF : Hid (∀ k, k ≤ 8 → fact k ≤ 40320) := Lib.hid (fun k hk => fact_le8 hk)
  have HP : Hid (∀ k, 0 < fact k) := Lib.hid fact_pos
  have HM : Hid (∀ k, 0 < k → fact k = k * fact (k - 1)) := Lib.hid (fun k hk => by obtain ⟨m, rfl⟩ : ∃ m, k = m + 1 := ⟨k - 1, by omega⟩; rfl)
  have HST := Lib.hid (RowSt.start n)
  have hrs : (roundsS n).size = n := rounds_size n (by omega)
  have h1 : inB (n : Int) 3 8 = true := by rw [inB, decide_eq_true_iff]; omega
  have h2 : inB (k : Int) 0 ((fact n : Int) - 1) = true := by rw [inB, decide_eq_true_iff]; omega
  go_in
  go_wp2_with (first | (go_at_call 104; refine (spec_l1In _ _ _ _).mono ?_; (first | rw [h1] | rw [h2]); rintro e w' ⟨rfl, rfl⟩) | (go_at_call 123; refine (spec_l1Fact h8).mono ?_; rintro e w' ⟨rfl, rfl⟩) | (go_at_call 108; refine (spec_l1Rounds h8).mono ?_; rintro e w' ⟨rfl, rfl⟩))
  go_loopw [1, 6, 7] (fun kk r o wr => ∃ (K : Nat) (rest out : ByteArray), kk = .int .i64 K ∧ r = .string rest ∧ o = .string out ∧ rest.size ≤ n ∧ K < fact rest.size ∧ Hid (RowSt n out rest) ∧ Below w.heap.size w wr) (fun _ r _ _ => txLen r)
  case atStart => exact ⟨k, roundsS n, ⟨#[]⟩, rfl, rfl, rfl, by omega, by rw [hrs]; exact hk, HST, Below.refl _ _⟩
  case round =>
    obtain ⟨K, rest, out, rfl, rfl, rfl, hrn, hK, HS, hb⟩ := hrel
    rename World => wr
    have hsz := HS.out.sizes h8
    by_cases h0 : 0 < rest.size
    · have hI : (0 : Int) < (rest.size : Int) := by omega
      have hm1 : (rest.size : Int) - 1 = ((rest.size - 1 : Nat) : Int) := by omega
      obtain ⟨F, hF⟩ : ∃ F, F = fact (rest.size - 1) := ⟨_, rfl⟩
      have hFp : 0 < F := by rw [hF]; exact HP.out _
      have hFl : F ≤ 40320 := by rw [hF]; exact HF.out _ (by omega)
      have hKF : K < rest.size * F := by rw [hF, ← HM.out _ h0]; exact hK
      have hK4 : K ≤ 40320 := by have := HF.out rest.size (by omega); omega
      have hi : K / F < rest.size := div_lt_of hKF hFp
      have hmod : K % F < F := Nat.mod_lt _ hFp
      obtain ⟨q, hq⟩ : ∃ q, q = K / F := ⟨_, rfl⟩
      obtain ⟨m, hm⟩ : ∃ m, m = K % F := ⟨_, rfl⟩
      have hqK : q ≤ K := by rw [hq]; exact Nat.div_le_self K F
      have e1 : IntKind.i64.wrap ((K : Int) / (F : Int)) = (q : Int) := by
        rw [show (K : Int) / (F : Int) = (q : Int) by rw [hq]; simp]; exact wrap_id (by omega)
      have e2 : (K : Int) % (F : Int) = (m : Int) := by rw [hm]; simp
      rw [← hq] at hi
      rw [← hm] at hmod
      have HST2 := Lib.hid (HS.out.step hi)
      have hFn : ¬ (F : Int) = 0 := by omega
      have hs2 := HST2.out.sizes h8
      have hs3 : (out ++ rest.extract q (q + 1)).size = out.size + 1 := by rw [ByteArray.size_append, ByteArray.size_extract]; omega
      have hfq : fact (rest.extract 0 q ++ rest.extract (q + 1) rest.size).size = F := by rw [hF]; congr 1; omega
      have HF2 := Lib.hid hF
      have HS2 := Lib.hid hfq
      clear hq hm hfq hF
      clear hKF hK
      go_wp2_with (go_at_call 123; refine (spec_l1Fact (n := rest.size - 1) (by omega)).mono ?_; rw [← HF2.out]; rintro e w' ⟨rfl, rfl⟩)
      have w1 : IntKind.i64.wrap ((q : Int) + 1) = (q : Int) + 1 := wrap_id (by omega)
      have w2 : (q : Int) + 1 ≤ (rest.size : Int) := by omega
      have w3 : (q : Int) ≤ (rest.size : Int) := by omega
      go_quiet (fail)
      go_wp2
      go_roundw
      case rel => exact ⟨m, rest.extract 0 q ++ rest.extract (q + 1) rest.size, out ++ rest.extract q (q + 1), by go_num, rfl, rfl, by omega, by rw [HS2.out]; exact hmod, HST2, below_drewN hb _⟩
      case measure => simp [txLen]; omega
    · go_wp2
      go_ret2
      obtain ⟨h5, h6⟩ := HS.out.done h3 h8 (by omega)
      exact ⟨out, rfl, ⟨h5, h6⟩, hb⟩
end Go.Proofs.Ytpccbmndgdiloaa
/- Signs: a change turns the sign of a row as often as it swaps; the sign of a product. -/
namespace Go.Proofs.Ytpccbmndgdiloaa
set_option linter.unusedVariables false
set_option linter.unusedSimpArgs false
open Go.ChangeShapes Go.WideShapes Go.ChangeAt Go.RowKit Go.Deep
def invs : List Int → Nat
  | [] => 0
  | x :: r => cnt x r + invs r
def gt (y : Int) (l : List Int) : Nat := l.countP fun z => decide (y < z)
theorem gt_cons (y z : Int) (l : List Int) : gt y (z :: l) = gt y l + (if y < z then 1 else 0) := by
  rw [gt, List.countP_cons, gt]
  by_cases h : y < z <;> simp [h]
theorem cnt_snoc (x y : Int) (l : List Int) : cnt x (l ++ [y]) = cnt x l + (if y < x then 1 else 0) := by
  rw [cnt, List.countP_append, cnt]
  by_cases h : y < x <;> simp [h]
theorem invs_snoc (y : Int) : ∀ l : List Int, invs (l ++ [y]) = invs l + gt y l
  | [] => by simp [invs, gt, cnt]
  | x :: r => by
    rw [List.cons_append, invs, invs_snoc y r, cnt_snoc, invs, gt_cons]
    omega
theorem drop_someZ {α : Type} {l : List α} {k : Nat} {x : α} (h : l[k]? = some x) : l.drop k = x :: l.drop (k + 1) := by
  rw [List.drop_eq_getElem_cons (List.getElem?_eq_some_iff.1 h).1, (List.getElem?_eq_some_iff.1 h).2]
def evB (n : Nat) : Bool := decide (n % 2 = 0)
theorem evB_succ (n : Nat) : evB (n + 1) = !evB n := by
  simp only [evB]
  by_cases h : n % 2 = 0
  · rw [decide_eq_true h, decide_eq_false (by omega)]; rfl
  · rw [decide_eq_false h, decide_eq_true (by omega)]; rfl
theorem tg_gt (s : ByteArray) (i : Nat) (c : Nat) : ∀ k, k ≤ s.size → tg s i k (evB c) = evB (c + gt (PlainAid.bt s i) ((nums s).take k))
  | 0, _ => by simp [tg, gt]
  | k + 1, h => by
    have ih := tg_gt s i c k (by omega)
    have e : (nums s).take (k + 1) = (nums s).take k ++ [PlainAid.bt s k] := take_succ_some (nums_at (by omega))
    have e2 : gt (PlainAid.bt s i) ((nums s).take k ++ [PlainAid.bt s k]) = gt (PlainAid.bt s i) ((nums s).take k) + (if PlainAid.bt s i < PlainAid.bt s k then 1 else 0) := by
      rw [gt, List.countP_append, gt]
      by_cases h : PlainAid.bt s i < PlainAid.bt s k <;> simp [h]
    rw [e, e2]
    by_cases hlt : PlainAid.bt s i < PlainAid.bt s k
    · rw [tg_yes hlt, ih, if_pos hlt, ← Nat.add_assoc, evB_succ]
    · rw [tg_no hlt, ih, if_neg hlt, Nat.add_zero]
theorem evo_invs (s : ByteArray) : ∀ k, k ≤ s.size → evo s k = evB (invs ((nums s).take k))
  | 0, _ => by simp [evo, invs, evB]
  | k + 1, h => by
    have e : (nums s).take (k + 1) = (nums s).take k ++ [PlainAid.bt s k] := take_succ_some (nums_at (by omega))
    rw [evo, evo_invs s k (by omega), tg_gt s k _ k (by omega), e, invs_snoc]
theorem even_invs (s : ByteArray) : evenRow s = evB (invs (nums s)) := by
  rw [evenRow, evo_invs s _ (Nat.le_refl _), List.take_of_length_le (by rw [nums_len]; exact Nat.le_refl _)]
theorem cnt_swap (z x y : Int) (q : List Int) : cnt z (x :: y :: q) = cnt z (y :: x :: q) := by
  rw [cnt_cons, cnt_cons, cnt_cons, cnt_cons]; omega
theorem invs_swap {x y : Int} (h : x ≠ y) (q : List Int) : ∀ p : List Int, evB (invs (p ++ x :: y :: q)) = !evB (invs (p ++ y :: x :: q))
  | [] => by
    simp only [List.nil_append, invs, cnt_cons]
    rcases Int.lt_or_lt_of_ne h with h1 | h1
    · rw [if_neg (by omega), if_pos h1]
      rw [show cnt x q + 0 + (cnt y q + invs q) = cnt x q + cnt y q + invs q by omega, show cnt y q + 1 + (cnt x q + invs q) = (cnt x q + cnt y q + invs q) + 1 by omega, evB_succ, Bool.not_not]
    · rw [if_pos h1, if_neg (by omega)]
      rw [show cnt x q + 1 + (cnt y q + invs q) = (cnt x q + cnt y q + invs q) + 1 by omega, show cnt y q + 0 + (cnt x q + invs q) = cnt x q + cnt y q + invs q by omega, evB_succ]
  | z :: p => by
    have ih := invs_swap h q p
    have hc : cnt z (p ++ x :: y :: q) = cnt z (p ++ y :: x :: q) := by
      rw [cnt, cnt, List.countP_append, List.countP_append]
      congr 1
      exact cnt_swap z x y q
    have key : ∀ a b c : Nat, evB a = !evB b → evB (c + a) = !evB (c + b) := fun a b c e => by
      induction c with
      | zero => simpa using e
      | succ c ih => rw [Nat.add_right_comm, Nat.add_right_comm c 1 b, evB_succ, evB_succ, ih]
    rw [List.cons_append, List.cons_append, invs, invs, hc]
    exact key _ _ _ ih
theorem invs_set {l : List Int} {p : Nat} {x y : Int} (hx : l[p]? = some x) (hy : l[p + 1]? = some y) (h : x ≠ y) : evB (invs ((l.set p y).set (p + 1) x)) = !evB (invs l) := by
  have hp := (List.getElem?_eq_some_iff.1 hy).1
  have e1 : l = l.take p ++ x :: y :: l.drop (p + 2) := by
    conv => lhs; rw [← List.take_append_drop p l]
    congr 1
    rw [drop_someZ hx, drop_someZ hy]
  have e2 : (l.set p y).set (p + 1) x = l.take p ++ y :: x :: l.drop (p + 2) := by
    have ht : (l.take p).length = p := by rw [List.length_take]; omega
    conv => lhs; rw [e1]
    rw [List.set_append_right _ _ (by omega), ht, Nat.sub_self, List.set_cons_zero, List.set_append_right _ _ (by omega), ht, Nat.add_sub_cancel_left, List.set_cons_succ, List.set_cons_zero]
  rw [e2, invs_swap (fun e => h e.symm)]
  conv => rhs; rw [e1]
/-- How often the first k swaps turn. -/
theorem rowV_take {n : Nat} {sw : List Int} (hin : ∀ x ∈ sw, ((1 : Nat) : Int) ≤ x ∧ x < n) (hfar : sw.Pairwise fun x y => x + 2 ≤ y) {a : ByteArray} (ha : isRowL (nums a)) (hn : a.size = n) :
    ∀ k, k ≤ sw.length → evB (invs ((rowV n (sw.take k)).map fun z => PlainAid.bt a (z - 49).toNat)) = (evB (invs (nums a)) == evB k)
  | 0, _ => by
    have e : ((rowV n []).map fun z => PlainAid.bt a (z - 49).toNat) = nums a := by
      apply List.ext_getElem (by rw [List.length_map, rowV_len, nums_len, hn])
      intro i h1 h2
      simp only [rowV, List.getElem_map, List.getElem_range, nums]
      congr 1
      simp [cval]
      omega
    rw [List.take_zero, e]
    rcases evB (invs (nums a)) <;> rfl
  | k + 1, h => by
    have ih := rowV_take hin hfar ha hn k (by omega)
    have hy : sw[k]? = some sw[k] := List.getElem?_eq_getElem (by omega)
    have hyin := hin _ (List.mem_of_getElem? hy)
    obtain ⟨q, hq⟩ : ∃ q : Nat, sw[k] = (q : Int) + 1 := ⟨(sw[k] - 1).toNat, by omega⟩
    have hqn : q + 1 < n := by omega
    have hfr : ∀ x ∈ sw.take k, x + 2 ≤ ((q + 1 : Nat) : Int) := fun x hx => by have := take_far hfar hy x hx; omega
    have hpl := rowV_plain hqn hfr
    have ht : sw.take (k + 1) = sw.take k ++ [((q + 1 : Nat) : Int)] := by rw [take_succ_some hy, hq]; rfl
    rw [ht, rowV_step (p := q + 1) (by omega) hqn hfr, Nat.add_sub_cancel, List.map_set, List.map_set]
    have b1 : PlainAid.bt a ((49 + ((q + 1 : Nat) : Int)) - 49).toNat = PlainAid.bt a (q + 1) := by congr 1; omega
    have b2 : PlainAid.bt a ((48 + ((q + 1 : Nat) : Int)) - 49).toNat = PlainAid.bt a q := by congr 1; omega
    have b3 : PlainAid.bt a ((49 + (q : Int)) - 49).toNat = PlainAid.bt a q := by congr 1; omega
    have b4 : PlainAid.bt a ((49 + ((q : Int) + 1)) - 49).toNat = PlainAid.bt a (q + 1) := by congr 1; omega
    rw [b1, b2]
    have m1 : ((rowV n (sw.take k)).map fun z => PlainAid.bt a (z - 49).toNat)[q]? = some (PlainAid.bt a q) := by
      rw [List.getElem?_map, hpl.1]
      show some (PlainAid.bt a ((49 + (q : Int)) - 49).toNat) = _
      rw [b3]
    have m2 : ((rowV n (sw.take k)).map fun z => PlainAid.bt a (z - 49).toNat)[q + 1]? = some (PlainAid.bt a (q + 1)) := by
      rw [List.getElem?_map, hpl.2]
      show some (PlainAid.bt a ((49 + ((q : Int) + 1)) - 49).toNat) = _
      rw [b4]
    have hne : PlainAid.bt a q ≠ PlainAid.bt a (q + 1) := by
      have hp := ha.1
      rw [List.nodup_iff_pairwise_ne, List.pairwise_iff_getElem] at hp
      have := hp q (q + 1) (by rw [nums_len]; omega) (by rw [nums_len]; omega) (by omega)
      have h1 := nums_at (s := a) (k := q) (by omega); have h2 := nums_at (s := a) (k := q + 1) (by omega)
      rw [List.getElem?_eq_getElem (by rw [nums_len]; omega)] at h1 h2
      injection h1 with h1; injection h2 with h2
      rw [← h1, ← h2]; exact this
    rw [invs_set m1 m2 hne, ih, evB_succ]
    rcases evB (invs (nums a)) <;> rcases evB k <;> rfl
theorem sign_apply {a : ByteArray} (h : goodRow a = true) (c : ByteArray) : evenRow (applyR a c) = (evenRow a == evenSwaps a.size c) := by
  have hn := goodRow_n h
  have hr := goodRow_list h
  have h2 := rowL_times hr (by rw [chRow, nums_strOf (rowL_bytes (rowL_ch a.size c) (by rw [rowV_len]; omega))]; exact rowL_ch a.size c) (chRow_size a.size c).symm
  have e1 : nums (applyR a c) = (rowV a.size (swaps a.size c)).map fun z => PlainAid.bt a (z - 49).toNat := by
    rw [applyR, timesS, nums_strOf (rowL_bytes h2 (by rw [timesL_len, chRow_size]; omega)), timesL, chRow, nums_strOf (rowL_bytes (rowL_ch a.size c) (by rw [rowV_len]; omega))]
  have e2 := rowV_take (sws_in (stays c) a.size 1) (sws_far (stays c) a.size 1) hr rfl (swaps a.size c).length (Nat.le_refl _)
  rw [show sws (stays c) a.size 1 = swaps a.size c from rfl, List.take_of_length_le (Nat.le_refl _)] at e2
  rw [even_invs, e1, e2, even_invs]
  rfl
/-! products -/
theorem nums_times {a b : ByteArray} (h : goodRow a = true) (g : goodRow b = true) (e : a.size = b.size) : nums (timesS a b) = timesL a b := by
  have hn := goodRow_n h
  rw [timesS, nums_strOf (rowL_bytes (rowL_times (goodRow_list h) (goodRow_list g) e) (by rw [timesL_len]; omega))]
theorem times_assoc {a b c : ByteArray} (ha : goodRow a = true) (hb : goodRow b = true) (hc : goodRow c = true) (e1 : a.size = b.size) (e2 : b.size = c.size) : timesS a (timesS b c) = timesS (timesS a b) c := by
  suffices h : timesL a (timesS b c) = timesL (timesS a b) c by
    show strOfNums (timesL a (timesS b c)) = strOfNums (timesL (timesS a b) c)
    rw [h]
  show (nums (timesS b c)).map _ = (nums c).map _
  rw [nums_times hb hc e2, timesL, List.map_map]
  apply List.map_congr_left
  intro z hz
  have hz2 := (goodRow_list hc).2 z hz
  rw [nums_len] at hz2
  have hk : (z - 49).toNat < b.size := by omega
  have h1 := timesL_at (a := a) hk
  rw [← nums_times ha hb e1, nums_at (by rw [timesS, strOfNums_size, timesL_len]; exact hk)] at h1
  injection h1 with h1
  rw [h1]; rfl
theorem times_rounds {a : ByteArray} (h : goodRow a = true) : timesS a (roundsS a.size) = a := by
  have hn := goodRow_n h
  apply nums_inj
  rw [nums_times h (good_rounds _ (by omega) (by omega)) (rounds_size _ (by omega)).symm, timesL, rowV_nil _ (by omega)]
  apply List.ext_getElem (by rw [List.length_map, rowV_len, nums_len])
  intro i h1 h2
  simp only [rowV, List.getElem_map, List.getElem_range, nums]
  congr 1
  simp [cval]
  omega
theorem times_apply {a b : ByteArray} (ha : goodRow a = true) (hb : goodRow b = true) (e : a.size = b.size) (c : ByteArray) : timesS a (applyR b c) = applyR (timesS a b) c := by
  have hs : (timesS a b).size = b.size := by rw [timesS, strOfNums_size, timesL_len]
  rw [applyR, applyR, hs, times_assoc ha hb (good_ch (goodRow_n hb) c) e (chRow_size _ _).symm]
theorem sign_times_rAt {a : ByteArray} (ha : goodRow a = true) (l : List ByteArray) : ∀ k, evenRow (timesS a (rAt (roundsS a.size) l k)) = (evenRow a == evenRow (rAt (roundsS a.size) l k))
  | 0 => by
    rw [rAt, times_rounds ha]
    have : ∀ n, n < 9 → evenRow (roundsS n) = true := of_decide_eq_true (by kernel_rfl)
    rw [this _ (by have := goodRow_n ha; omega)]
    rcases evenRow a <;> rfl
  | k + 1 => by
    have hn := goodRow_n ha
    have hg := good_rAt (good_rounds a.size (by omega) (by omega)) l k
    have hs : (rAt (roundsS a.size) l k).size = a.size := by rw [rAt_size, rounds_size _ (by omega)]
    have ht : (timesS a (rAt (roundsS a.size) l k)).size = a.size := by rw [timesS, strOfNums_size, timesL_len, hs]
    rw [rAt, times_apply ha hg hs.symm, sign_apply (good_times ha hg hs.symm), sign_apply hg, sign_times_rAt ha l k, ht, hs]
    rcases evenRow a <;> rcases evenRow (rAt (roundsS a.size) l k) <;> rcases evenSwaps a.size _ <;> rfl
theorem sign_times_head {a : ByteArray} (ha : goodRow a = true) {l : List ByteArray} (x : ByteArray) (h : 0 < l.length) : evenRow (timesS a (headX a.size l x)) = (evenRow a == evenRow (headX a.size l x)) := by
  have := sign_times_rAt ha (l.set (l.length - 1) x) l.length
  rwa [headX_set h] at this
end Go.Proofs.Ytpccbmndgdiloaa
/- Chapter 17 as plain functions: the inverse of a row, the powers of a row, Q-sets. -/
namespace Go.Proofs.Ytpccbmndgdiloaa
set_option linter.unusedVariables false
set_option linter.unusedSimpArgs false
open Go.ChangeShapes Go.WideShapes Go.ChangeAt Go.RowKit Go.Deep
theorem nodup_of {α : Type} {l : List α} (h : ∀ i j, i < j → j < l.length → l[i]? ≠ l[j]?) : l.Nodup :=
  List.pairwise_iff_getElem.2 fun i j hi hj hij e => h i j hij hj (by rw [List.getElem?_eq_getElem hi, List.getElem?_eq_getElem hj, e])
/-- m is the inverse of a, written in bytes. -/
def TurnOf (a : ByteArray) (m : List Int) : Prop := m.length = a.size ∧ ∀ i, i < a.size → m[(PlainAid.bt a i - 49).toNat]? = some (49 + (i : Int))
theorem row_at {a : ByteArray} (h : goodRow a = true) {i : Nat} (hi : i < a.size) : 49 ≤ PlainAid.bt a i ∧ PlainAid.bt a i ≤ 48 + (a.size : Int) := by
  have := (goodRow_list h).2 _ (List.mem_of_getElem? (nums_at hi))
  rwa [nums_len] at this
theorem row_inj {a : ByteArray} (h : goodRow a = true) {i j : Nat} (hi : i < a.size) (hj : j < a.size) (e : PlainAid.bt a i = PlainAid.bt a j) : i = j := by
  have hn := (goodRow_list h).1
  have h1 := nums_at hi
  have h2 := nums_at hj
  rw [e] at h1
  exact (List.getElem?_inj (by rw [nums_len]; exact hi) hn).1 (h1.trans h2.symm)
theorem row_hit {a : ByteArray} (h : goodRow a = true) {j : Nat} (hj : j < a.size) : ∃ i, i < a.size ∧ PlainAid.bt a i = 49 + (j : Int) := by
  have hm : (49 + (j : Int)) ∈ nums a := (isRowL_mem (goodRow_list h)).2 (by rw [nums_len]; omega)
  obtain ⟨i, hi⟩ := List.getElem?_of_mem hm
  have hl := (List.getElem?_eq_some_iff.1 hi).1
  rw [nums_len] at hl
  rw [nums_at hl] at hi
  injection hi with hi
  exact ⟨i, hl, hi⟩
theorem TurnOf.uniq {a : ByteArray} {m l : List Int} (h : goodRow a = true) (hm : TurnOf a m) (hl : TurnOf a l) : m = l := by
  refine eq_of_upto (k := a.size) (fun j hj => ?_) hm.1 hl.1
  obtain ⟨i, hi, e⟩ := row_hit h hj
  have h1 := hm.2 i hi
  have h2 := hl.2 i hi
  rw [e, show ((49 : Int) + (j : Int) - 49).toNat = j by omega] at h1 h2
  rw [h1, h2]
/-- The inverse of a row. -/
noncomputable def turnS (a : ByteArray) : ByteArray := by
  classical exact if h : ∃ m, TurnOf a m then strOfNums h.choose else ByteArray.empty
theorem turn_eq {a : ByteArray} {m : List Int} (h : goodRow a = true) (hm : TurnOf a m) : turnS a = strOfNums m := by
  have he : ∃ m, TurnOf a m := ⟨m, hm⟩
  rw [turnS, dif_pos he, TurnOf.uniq h he.choose_spec hm]
theorem turn_row {a : ByteArray} {m : List Int} (h : goodRow a = true) (hm : TurnOf a m) : RowN a.size (turnS a) := by
  have hn := goodRow_n h
  have hv : ∀ j, j < a.size → ∃ i, i < a.size ∧ PlainAid.bt a i = 49 + (j : Int) ∧ m[j]? = some (49 + (i : Int)) := fun j hj => by
    obtain ⟨i, hi, e⟩ := row_hit h hj
    have h1 := hm.2 i hi
    rw [e, show ((49 : Int) + (j : Int) - 49).toNat = j by omega] at h1
    exact ⟨i, hi, e, h1⟩
  have hr : isRowL m := by
    constructor
    · refine nodup_of ?_
      intro i j hij hj hc
      rw [hm.1] at hj
      obtain ⟨p, _, ep, e1⟩ := hv i (by omega)
      obtain ⟨q, _, eq, e2⟩ := hv j hj
      rw [e1, e2] at hc
      injection hc with hc
      have : p = q := by omega
      subst this
      omega
    · intro z hz
      obtain ⟨j, hj⟩ := List.getElem?_of_mem hz
      have hl := (List.getElem?_eq_some_iff.1 hj).1
      rw [hm.1] at hl
      obtain ⟨p, hp, _, e1⟩ := hv j hl
      rw [e1] at hj
      injection hj with hj
      rw [hm.1]; omega
  have hb := rowL_bytes hr (by rw [hm.1]; omega)
  have hs : (strOfNums m).size = a.size := by rw [strOfNums_size, hm.1]
  rw [turn_eq h hm]
  exact ⟨goodRow_of (by rw [hs]; omega) (by rw [nums_strOf hb]; exact hr), hs⟩
/-! products -/
theorem times_at {a b : ByteArray} {n k : Nat} (ha : RowN n a) (hb : RowN n b) (hk : k < n) : PlainAid.bt (timesS a b) k = PlainAid.bt a (PlainAid.bt b k - 49).toNat := by
  have h1 := timesL_at (a := a) (b := b) (k := k) (by rw [hb.2]; exact hk)
  rw [← nums_times ha.1 hb.1 (by rw [ha.2, hb.2]), nums_at (by rw [(ha.times hb).2]; exact hk)] at h1
  injection h1
theorem row_ext {a b : ByteArray} (e : a.size = b.size) (h : ∀ k, k < a.size → PlainAid.bt a k = PlainAid.bt b k) : a = b := by
  refine nums_inj (eq_of_upto (k := a.size) (fun j hj => ?_) (nums_len a) (by rw [nums_len, e]))
  rw [nums_at hj, nums_at (by rw [← e]; exact hj), h j hj]
theorem times_cancel {x y q : ByteArray} {n : Nat} (hx : RowN n x) (hy : RowN n y) (hq : RowN n q) (e : timesS x q = timesS y q) : x = y := by
  refine row_ext (by rw [hx.2, hy.2]) fun k hk => ?_
  rw [hx.2, ← hq.2] at hk
  obtain ⟨i, hi, e1⟩ := row_hit hq.1 hk
  rw [hq.2] at hi
  have h1 := times_at hx hq hi
  have h2 := times_at hy hq hi
  rw [e1, show ((49 : Int) + (k : Int) - 49).toNat = k by omega] at h1 h2
  rw [← h1, ← h2, e]
theorem rounds_bt {n k : Nat} (h8 : n < 9) (hk : k < n) : PlainAid.bt (roundsS n) k = 49 + (k : Int) := by
  have h1 := nums_at (s := roundsS n) (k := k) (by rw [rounds_size _ h8]; exact hk)
  rw [rowV_nil _ h8] at h1
  have h2 : (rowV n [])[k]? = some (49 + (k : Int)) := by
    rw [rowV, List.getElem?_map, List.getElem?_range hk]
    simp [cval]
    try omega
  rw [h2] at h1
  injection h1 with h1
  exact h1.symm
theorem rounds_times {q : ByteArray} {n : Nat} (hq : RowN n q) : timesS (roundsS n) q = q := by
  have hs := hq.st
  have hr := rowN_rounds hs.1 hs.2
  refine row_ext (by rw [(hr.times hq).2, hq.2]) fun k hk => ?_
  rw [(hr.times hq).2] at hk
  have h1 := row_at hq.1 (i := k) (by rw [hq.2]; exact hk)
  rw [hq.2] at h1
  rw [times_at hr hq hk, rounds_bt (by omega) (by omega)]
  omega
/-- The powers of a row. -/
def pwS (n : Nat) (q : ByteArray) : Nat → ByteArray
  | 0 => roundsS n
  | k + 1 => timesS (pwS n q k) q
theorem pw_row {n : Nat} {q : ByteArray} (hq : RowN n q) : ∀ k, RowN n (pwS n q k)
  | 0 => rowN_rounds hq.st.1 hq.st.2
  | k + 1 => (pw_row hq k).times hq
theorem pw_one {n : Nat} {q : ByteArray} (hq : RowN n q) : pwS n q 1 = q := rounds_times hq
theorem pw_eq {n : Nat} {q : ByteArray} (hq : RowN n q) : ∀ i d, pwS n q i = pwS n q (i + d) → pwS n q d = roundsS n
  | 0, d, h => by rw [Nat.zero_add] at h; exact h.symm
  | i + 1, d, h => by
    rw [Nat.add_right_comm] at h
    exact pw_eq hq i d (times_cancel (pw_row hq i) (pw_row hq (i + d)) hq h)
def pwL (n : Nat) (q : ByteArray) (m : Nat) : List ByteArray := (List.range m).map (pwS n q)
theorem pwL_len (n : Nat) (q : ByteArray) (m : Nat) : (pwL n q m).length = m := by simp [pwL]
theorem pwL_succ (n : Nat) (q : ByteArray) (m : Nat) : pwL n q (m + 1) = pwL n q m ++ [pwS n q m] := by rw [pwL, List.range_succ, List.map_append]; rfl
theorem pwL_le {n m : Nat} {q : ByteArray} (hq : RowN n q) (h : ∀ k, 1 ≤ k → k < m → pwS n q k ≠ roundsS n) : m ≤ fact n := by
  have h1 : (pwL n q m).Nodup := by
    rw [pwL]; refine nodup_of ?_
    intro i j hij hj hc
    rw [List.length_map, List.length_range] at hj
    rw [List.getElem?_map, List.getElem?_map, List.getElem?_range (by omega), List.getElem?_range hj] at hc
    injection hc with hc
    refine h (j - i) (by omega) (by omega) (pw_eq hq i (j - i) ?_)
    rw [hc, show i + (j - i) = j by omega]
  have h2 := rows_le h1 (n := n) (fun s hs => by
    rw [pwL, List.mem_map] at hs
    obtain ⟨k, _, rfl⟩ := hs
    exact pw_row hq k)
  rwa [pwL_len] at h2
/-- A row of rows that has with each of its rows the next one by q. -/
def closedB (q : ByteArray) (B : List ByteArray) : Bool := B.all fun h => inL B (timesS h q)
theorem closed_pw {n : Nat} {q : ByteArray} {B : List ByteArray} (hq : RowN n q) (hB : ∀ h ∈ B, RowN n h) (hc : closedB q B = true) {h : ByteArray} (hh : h ∈ B) : ∀ k, timesS h (pwS n q k) ∈ B
  | 0 => by
    have h1 := times_rounds (hB h hh).1
    rw [(hB h hh).2] at h1
    rw [pwS, h1]; exact hh
  | k + 1 => by
    have ih := closed_pw hq hB hc hh k
    have hp := pw_row hq k
    rw [pwS, times_assoc (hB h hh).1 hp.1 hq.1 (by rw [(hB h hh).2, hp.2]) (by rw [hp.2, hq.2])]
    exact inL_iff.1 (List.all_eq_true.1 hc _ ih)
theorem closed_of {n m : Nat} {q : ByteArray} {B : List ByteArray} (hq : RowN n q) (hB : ∀ h ∈ B, RowN n h) (hm : 1 ≤ m) (hr : pwS n q m = roundsS n) (h : ∀ x ∈ B, ∀ k, k < m → timesS x (pwS n q k) ∈ B) : closedB q B = true := by
  rw [closedB, List.all_eq_true]
  intro x hx
  rw [inL_iff]
  by_cases h1 : 1 < m
  · have := h x hx 1 h1
    rwa [pw_one hq] at this
  · obtain rfl : m = 1 := by omega
    have h2 := times_rounds (hB x hx).1
    rw [(hB x hx).2] at h2
    rw [← pw_one hq, hr, h2]; exact hx
/-- Whether some are rising rows of a group. -/
def rowsInB (G B : List ByteArray) : Bool := B.all (inL G) && incB B
theorem inc_srt {B : List ByteArray} (h : incB B = true) : Srt B := by
  have h1 : ∀ i, i + 1 < B.length → ∀ x y, B[i]? = some x → B[i + 1]? = some y → less x y = true := fun i hi x y hx hy => by
    have := List.all_eq_true.1 h (i + 1) (List.mem_range.2 hi)
    simpa [okInc, List.getD, hx, hy] using this
  have h2 : ∀ (d i : Nat) (x y : ByteArray), B[i]? = some x → B[i + d + 1]? = some y → less x y = true := by
    intro d
    induction d with
    | zero => intro i x y hx hy; exact h1 i (List.getElem?_eq_some_iff.1 hy).1 x y hx hy
    | succ d ih =>
      intro i x y hx hy
      have hl := (List.getElem?_eq_some_iff.1 hy).1
      obtain ⟨z, hz⟩ : ∃ z, B[i + d + 1]? = some z := ⟨_, List.getElem?_eq_getElem (by omega)⟩
      exact less_trans (ih i x z hx hz) (h1 (i + d + 1) (by omega) z y hz hy)
  rw [Srt, List.pairwise_iff_getElem]
  intro i j hi hj hij
  have := h2 (j - i - 1) i _ _ (List.getElem?_eq_getElem hi) (by rw [show i + (j - i - 1) + 1 = j by omega]; exact List.getElem?_eq_getElem hj)
  rw [leS]
  rcases hc : less B[j] B[i] with _ | _
  · rfl
  · have := less_trans this hc
    rw [less_irr] at this; cases this
end Go.Proofs.Ytpccbmndgdiloaa
/- Plain laws of the search for an extent, and of the count of all. -/
namespace Go.Proofs.Ytpccbmndgdiloaa
set_option linter.unusedVariables false
set_option linter.unusedSimpArgs false
open Go.ChangeShapes Go.WideShapes Go.ChangeAt Go.RowKit Go.Deep
/-- How a search ends: with a way, or with no step left; or it goes on with so many steps. -/
abbrev Fate := Option (List ByteArray) ⊕ Nat
def srchL (rec : ByteArray → List ByteArray → List ByteArray → Nat → Fate) (n : Nat) (full : Bool) (r : ByteArray) (V P : List ByteArray) : List ByteArray → Nat → Fate
  | [], left => .inr left
  | _ :: _, 0 => .inl none
  | c :: cs, left + 1 =>
    if full = true ∧ decide (applyR r c = roundsS n) = true then .inl (some (P ++ [c]))
    else if full = true ∨ inL V (applyR r c) = true then srchL rec n full r V P cs left
    else match rec (applyR r c) (V ++ [applyR r c]) (P ++ [c]) left with
      | .inr left' => srchL rec n full r V P cs left'
      | .inl o => .inl o
def srch (n : Nat) (W : List ByteArray) : Nat → ByteArray → List ByteArray → List ByteArray → Nat → Fate
  | 0, r, V, P, left => srchL (fun _ _ _ l => .inr l) n true r V P W left
  | d + 1, r, V, P, left => srchL (srch n W d) n false r V P W left
section
variable {rec : ByteArray → List ByteArray → List ByteArray → Nat → Fate} {n : Nat} {full : Bool} {r c : ByteArray} {V P cs : List ByteArray} {left : Nat}
theorem srchL_over : srchL rec n full r V P (c :: cs) 0 = .inl none := by rw [srchL]
theorem srchL_hit (h : full = true) (h2 : applyR r c = roundsS n) : srchL rec n full r V P (c :: cs) (left + 1) = .inl (some (P ++ [c])) := by
  rw [srchL, if_pos ⟨h, decide_eq_true h2⟩]
theorem srchL_skip (h : ¬ (full = true ∧ applyR r c = roundsS n)) (h2 : full = true ∨ inL V (applyR r c) = true) : srchL rec n full r V P (c :: cs) (left + 1) = srchL rec n full r V P cs left := by
  rw [srchL, if_neg (fun q => h ⟨q.1, of_decide_eq_true q.2⟩), if_pos h2]
theorem srchL_in (h : full = false) (h2 : inL V (applyR r c) = false) : srchL rec n full r V P (c :: cs) (left + 1) = match rec (applyR r c) (V ++ [applyR r c]) (P ++ [c]) left with
      | .inr left' => srchL rec n full r V P cs left'
      | .inl o => .inl o := by
  rw [srchL, if_neg (fun q => by rw [h] at q; cases q.1), if_neg (fun q => by rw [h, h2] at q; rcases q with q | q <;> cases q)]
theorem srchL_in_go {l : Nat} (h : full = false) (h2 : inL V (applyR r c) = false) (h3 : rec (applyR r c) (V ++ [applyR r c]) (P ++ [c]) left = .inr l) : srchL rec n full r V P (c :: cs) (left + 1) = srchL rec n full r V P cs l := by
  rw [srchL_in h h2, h3]
theorem srchL_in_end {o : Option (List ByteArray)} (h : full = false) (h2 : inL V (applyR r c) = false) (h3 : rec (applyR r c) (V ++ [applyR r c]) (P ++ [c]) left = .inl o) : srchL rec n full r V P (c :: cs) (left + 1) = .inl o := by
  rw [srchL_in h h2, h3]
end
theorem srchL_le {rec : ByteArray → List ByteArray → List ByteArray → Nat → Fate} (hr : ∀ r V P left l, rec r V P left = .inr l → l ≤ left) (n : Nat) (full : Bool) (r : ByteArray) (V P : List ByteArray) : ∀ (cs : List ByteArray) (left l : Nat), srchL rec n full r V P cs left = .inr l → l ≤ left
  | [], left, l, h => by rw [srchL] at h; injection h with h; omega
  | c :: cs, 0, l, h => by rw [srchL] at h; cases h
  | c :: cs, left + 1, l, h => by
    rw [srchL] at h
    split at h
    · cases h
    · split at h
      · have := srchL_le hr n full r V P cs left l h; omega
      · rcases q : rec (applyR r c) (V ++ [applyR r c]) (P ++ [c]) left with o | l2
        · rw [q] at h; cases h
        · rw [q] at h
          have h1 := srchL_le hr n full r V P cs l2 l h
          have h2 := hr _ _ _ _ _ q
          omega
theorem srch_le (n : Nat) (W : List ByteArray) : ∀ (d : Nat) (r : ByteArray) (V P : List ByteArray) (left l : Nat), srch n W d r V P left = .inr l → l ≤ left
  | 0, r, V, P, left, l, h => srchL_le (fun r V P left l h => by injection h with h; omega) n true r V P W left l h
  | d + 1, r, V, P, left, l, h => srchL_le (srch_le n W d) n false r V P W left l h
/-- All ways on. -/
def cntL (rec : ByteArray → List ByteArray → Nat) (n : Nat) (full : Bool) (r : ByteArray) (V : List ByteArray) : List ByteArray → Nat
  | [] => 0
  | c :: cs =>
    if full = true then (if decide (applyR r c = roundsS n) = true then 1 else 0) + cntL rec n full r V cs
    else if inL V (applyR r c) = true then cntL rec n full r V cs
    else rec (applyR r c) (V ++ [applyR r c]) + cntL rec n full r V cs
def cntX (n : Nat) (W : List ByteArray) : Nat → ByteArray → List ByteArray → Nat
  | 0, r, V => cntL (fun _ _ => 0) n true r V W
  | d + 1, r, V => cntL (cntX n W d) n false r V W
/-- How many steps that takes. -/
def stpL (rec : ByteArray → List ByteArray → Nat) (full : Bool) (r : ByteArray) (V : List ByteArray) : List ByteArray → Nat
  | [] => 0
  | c :: cs => 1 + (if full = true ∨ inL V (applyR r c) = true then 0 else rec (applyR r c) (V ++ [applyR r c])) + stpL rec full r V cs
def stpX (W : List ByteArray) : Nat → ByteArray → List ByteArray → Nat
  | 0, r, V => stpL (fun _ _ => 0) true r V W
  | d + 1, r, V => stpL (stpX W d) false r V W
def stB (k : Nat) : Nat → Nat
  | 0 => k
  | d + 1 => k * (1 + stB k d)
theorem stpL_le {rec : ByteArray → List ByteArray → Nat} {B : Nat} (hr : ∀ r V, rec r V ≤ B) (full : Bool) (r : ByteArray) (V : List ByteArray) : ∀ cs : List ByteArray, stpL rec full r V cs ≤ cs.length * (1 + B)
  | [] => by simp [stpL]
  | c :: cs => by
    have h1 := stpL_le hr full r V cs
    rw [stpL, List.length_cons, Nat.succ_mul]
    split
    · omega
    · have := hr (applyR r c) (V ++ [applyR r c]); omega
theorem stpX_le (W : List ByteArray) : ∀ (d : Nat) (r : ByteArray) (V : List ByteArray), stpX W d r V ≤ stB W.length d
  | 0, r, V => by have := stpL_le (rec := fun _ _ => 0) (B := 0) (fun _ _ => Nat.le_refl _) true r V W; rw [stpX, stB]; omega
  | d + 1, r, V => stpL_le (stpX_le W d) false r V W
theorem stB_mono {j k : Nat} (h : j ≤ k) : ∀ d, stB j d ≤ stB k d
  | 0 => h
  | d + 1 => Nat.mul_le_mul h (by have := stB_mono h d; omega)
theorem cntL_le {rec : ByteArray → List ByteArray → Nat} {n B : Nat} (hB : 1 ≤ B) (hr : ∀ r V, rec r V ≤ B) (full : Bool) (r : ByteArray) (V : List ByteArray) : ∀ cs : List ByteArray, cntL rec n full r V cs ≤ cs.length * B
  | [] => by simp [cntL]
  | c :: cs => by
    have h1 := cntL_le hB hr (n := n) full r V cs
    rw [cntL, List.length_cons, Nat.succ_mul]
    split
    · split <;> omega
    · split
      · omega
      · have := hr (applyR r c) (V ++ [applyR r c]); omega
def ctB (k : Nat) : Nat → Nat
  | 0 => k
  | d + 1 => k * (1 + ctB k d)
theorem cntX_le (n : Nat) (W : List ByteArray) : ∀ (d : Nat) (r : ByteArray) (V : List ByteArray), cntX n W d r V ≤ stB W.length d
  | 0, r, V => by have := cntL_le (n := n) (rec := fun _ _ => 0) (B := 1) (Nat.le_refl _) (fun _ _ => Nat.zero_le _) true r V W; rw [cntX, stB]; omega
  | d + 1, r, V => cntL_le (by omega) (fun r V => by have := cntX_le n W d r V; omega) false r V W
theorem place_zero {n : Nat} {s : ByteArray} (h3 : 3 ≤ n) (h8 : n ≤ 8) (h : RowN n s) : place s = 0 ↔ s = roundsS n := by
  have h0 := place_rounds n (by omega)
  constructor
  · intro e; exact rowN_inj h (rowN_rounds h3 h8) (by rw [e, h0])
  · intro e; rw [e, h0]
theorem RowN.apply {n : Nat} {r : ByteArray} (h : RowN n r) (c : ByteArray) : RowN n (applyR r c) := ⟨good_apply h.1 c, by rw [applyR_size]; exact h.2⟩
theorem ClOk.snoc {n : Nat} {V : List ByteArray} {x : ByteArray} (h : ClOk n V) (hx : RowN n x) (hn : inL V x = false) : ClOk n (V ++ [x]) := by
  refine ⟨List.nodup_append.2 ⟨h.1, by simp, fun a ha b hb he => ?_⟩, fun s hs => ?_⟩
  · rw [List.mem_singleton.1 hb] at he
    subst he
    rw [inL_iff.2 ha] at hn; cases hn
  · rcases List.mem_append.1 hs with hs | hs
    · exact h.2 s hs
    · rw [List.mem_singleton.1 hs]; exact hx
/-- With all rows seen each row is seen. -/
theorem full_in {n : Nat} {V : List ByteArray} {x : ByteArray} (h : ClOk n V) (hx : RowN n x) (hl : V.length = fact n) : inL V x = true := inL_iff.2 (rows_all h.1 h.2 (by omega) hx)
theorem drop_at {α : Type} {l : List α} {k : Nat} {x : α} (h : l[k]? = some x) : l.drop k = x :: l.drop (k + 1) := by
  obtain ⟨hk, e⟩ := List.getElem?_eq_some_iff.1 h
  rw [List.drop_eq_getElem_cons hk, e]
end Go.Proofs.Ytpccbmndgdiloaa
/- The walks through the order of a row and the rows of a course. -/
namespace Go.Proofs.Ytpccbmndgdiloaa
set_option linter.unusedVariables false
set_option linter.unusedSimpArgs false
open Go.ChangeShapes Go.WideShapes Go.ChangeAt Go.RowKit Go.Deep
theorem rAt_row {n : Nat} {a : ByteArray} (h : RowN n a) (l : List ByteArray) : ∀ k, RowN n (rAt a l k)
  | 0 => h
  | k + 1 => by rw [rAt]; exact (rAt_row h l k).apply _
theorem rowsL_row {n : Nat} {a : ByteArray} (h : RowN n a) (l : List ByteArray) (m : Nat) : ∀ s ∈ rowsL a l m, RowN n s := fun s hs => by
  obtain ⟨k, _, rfl⟩ := List.mem_map.1 hs
  exact rAt_row h l k
theorem bytes_ne' {y s : ByteArray} (h : ¬ y = s) : (y.toList == s.toList) = false := by
  rw [beq_eq_false_iff_ne]; exact fun e => h (toList_inj e)
set_option maxHeartbeats 1000000 in
set_option maxRecDepth 100000 in
theorem spec_l1Order {a : ByteArray} {n : Nat} {w : World} (hg : RowN n a) :
    Calls Try.prog 222 #[.string a] w fun e w' => ∃ k : Nat, e = .returned (.int .i64 k) ∧ 1 ≤ k ∧ k ≤ fact n ∧ w = w' := by
  obtain ⟨h3, h8⟩ := hg.st
  have h40 : fact n ≤ 40320 := fact_le8 h8
  have hsz := hg.2
  have HG := Lib.hid hg
  clear hg
  go_in
  go_wp2
  go_loopw [3, 4] (fun v p wr => ∃ k : Nat, 1 ≤ k ∧ v = .int .i64 k ∧ p = .string (pwS n a k) ∧ Hid (∀ j, 1 ≤ j → j < k → pwS n a j ≠ roundsS n) ∧ w = wr) (fun v _ _ => 40321 - (intOf v).toNat)
  case atStart => exact ⟨1, Nat.le_refl _, rfl, by rw [pw_one HG.out], Lib.hid (fun j h1 h2 => absurd h1 (by omega)), rfl⟩
  case round =>
    obtain ⟨k, hk, rfl, rfl, HK, rfl⟩ := hrel
    have hlf : k ≤ fact n := pwL_le HG.out HK.out
    have hle : k ≤ 40320 := Nat.le_trans hlf h40
    have hpN := pw_row HG.out k
    have HPS := Lib.hid (show pwS n a (k + 1) = timesS (pwS n a k) a from rfl)
    have hft := rowN_fits hpN HG.out
    obtain ⟨p, hp⟩ : ∃ p, p = pwS n a k := ⟨_, rfl⟩
    have HP := Lib.hid hp
    rw [← hp] at hpN hft
    rw [← hp]
    have hps : p.size ≤ 16777216 := by rw [hpN.2]; omega
    by_cases he : p = roundsS n
    · have hbe : (p.toList == (roundsS n).toList) = true := by rw [he]; simp
      clear hp he
      go_wp2_with (go_at_call 108; refine (spec_l1Rounds h8).mono ?_; rintro e w' ⟨rfl, rfl⟩)
      go_ret
      exact ⟨k, rfl, hk, hlf, rfl⟩
    · have hbe := bytes_ne' he
      have HN := Lib.hid he
      clear hp he
      go_wp2_with (first | (go_at_call 108; refine (spec_l1Rounds h8).mono ?_; rintro e w' ⟨rfl, rfl⟩) | (go_at_call 176; refine (spec_l1Times hps (by omega) hft).mono ?_; rintro e w' ⟨rfl, rfl⟩))
      go_roundw
      case rel => exact ⟨k + 1, by omega, by go_num, by rw [HPS.out, ← HP.out], Lib.hid (fun j h1 h2 => by
          by_cases e : j = k
          · rw [e, ← HP.out]; exact HN.out
          · exact HK.out j h1 (by omega)), trivial⟩
      case measure => simp [intOf]; omega
set_option maxHeartbeats 1000000 in
set_option maxRecDepth 100000 in
theorem spec_l4Head {A : Option Addr} {n c st : Nat} {nm : ByteArray} {l : List ByteArray} {w : World} (hn : l.length = n) (h : Strs w A l) (hz : n ≤ 1048576) (hs : ∀ s ∈ l, s.size ≤ 16777216) (h8 : st ≤ 8) :
    Calls Try.prog 223 #[.agg #[.string nm, .int .i64 (st : Int), .slice A n c]] w fun e w' => e = .returned (.string (rAt (roundsS st) l n)) ∧ Below w.heap.size w w' := by
  have b0 : Below w.heap.size w (w.alloc (.cells ⟨[.string nm, .int .i64 (st : Int), .slice A n c]⟩ 26)) := by (repeat' (first | (with_reducible exact Below.refl _ _) | (with_reducible assumption) | (with_reducible refine below_drewN ?_ _) | (with_reducible refine Below.drew ?_) | (with_reducible refine below_alloc ?_ _) | (with_reducible refine Below.alloc ?_ ?_ _) | (with_reducible refine Below.setCell ?_ ?_ _) | (with_reducible refine below_go ?_ (by with_reducible assumption)) | (with_reducible refine below_then (by with_reducible assumption) ?_ ?_) | go_size))
  have K0 := Blk.at_ w 26 [.string nm, .int .i64 (st : Int), .slice A n c] (b := w.heap.size) rfl
  have HS := Lib.hid hs
  have HN := Lib.hid hn
  have hr8 : (roundsS st).size ≤ 8 := by rw [rounds_size st (by omega)]; exact h8
  clear hs hn
  go_in
  go_upto_region 1 with fail
  obtain ⟨w0, hw0⟩ : ∃ u, u = w.alloc (.cells #[.string nm, .int .i64 (st : Int), .slice A n c] 26) := ⟨_, rfl⟩
  rw [← hw0] at b0 K0 ⊢
  clear hw0
  have H0 := h.up b0
  have k1 := K0.cell 1; have k2 := K0.cell 2
  simp only [List.getElem?_cons_zero, List.getElem?_cons_succ] at k1 k2
  go_region_held3 (fun u => u.cell? ⟨w.heap.size, 1, none⟩ = some (.int .i64 (st : Int)) ∧ u.cell? ⟨w.heap.size, 2, none⟩ = some (.slice A n c)) (first | exact ⟨k1d, k2d⟩ | exact ⟨k1, k2⟩) (first | (go_at_call 108; refine (spec_l1Rounds h8).mono ?_; rintro e w' ⟨rfl, rfl⟩) | (go_at_call 126; refine (spec_l4Lead hr8 HN.out H0.drew (by omega) HS.out).mono ?_; rintro e w1 ⟨A1, c1, rfl, ho, hbd⟩; have hb1 := below_of_drew hbd; have L0 := K0.up hb1; have k1d := L0.cell 1; have k2d := L0.cell 2; simp only [List.getElem?_cons_zero, List.getElem?_cons_succ] at k1d k2d))
  go_wp2
  go_ret
  exact ⟨rfl, below_go b0 hb1⟩
set_option maxHeartbeats 2000000 in
set_option maxRecDepth 100000 in
theorem spec_l4Course {A : Option Addr} {n c st : Nat} {nm : ByteArray} {l : List ByteArray} {w : World} (hn : l.length = n) (h : Strs w A l) (hz : n ≤ 12) (h0 : 1 ≤ n) (hs : ∀ s ∈ l, s.size ≤ 16777216) (h3 : 3 ≤ st) (h6 : st ≤ 6) :
    Calls Try.prog 187 #[.agg #[.string nm, .int .i64 (st : Int), .slice A n c]] w fun e w' => ∃ A' m c' L, e = .returned (.slice A' m c') ∧ 1 ≤ m ∧ m ≤ 8640 ∧ Hid (∀ s ∈ L, RowN st s) ∧ Owned strE 1 9 w' w.heap.size A' m c' L ∧ Below w.heap.size w w' := by
  have b0 : Below w.heap.size w (w.alloc (.cells ⟨[.string nm, .int .i64 (st : Int), .slice A n c]⟩ 26)) := by (repeat' (first | (with_reducible exact Below.refl _ _) | (with_reducible assumption) | (with_reducible refine below_drewN ?_ _) | (with_reducible refine Below.drew ?_) | (with_reducible refine below_alloc ?_ _) | (with_reducible refine Below.alloc ?_ ?_ _) | (with_reducible refine Below.setCell ?_ ?_ _) | (with_reducible refine below_go ?_ (by with_reducible assumption)) | (with_reducible refine below_then (by with_reducible assumption) ?_ ?_) | go_size))
  have K0 := Blk.at_ w 26 [.string nm, .int .i64 (st : Int), .slice A n c] (b := w.heap.size) rfl
  have HS := Lib.hid hs
  have HN := Lib.hid hn
  have hR := rowN_rounds h3 (by omega : st ≤ 8)
  have hF : fact st ≤ 720 := by
    have : st = 3 ∨ st = 4 ∨ st = 5 ∨ st = 6 := by omega
    rcases this with rfl | rfl | rfl | rfl <;> decide
  have HH := Lib.hid (rAt_row hR l n)
  clear hs hn
  go_in
  go_wp2_with fail
  obtain ⟨w0, hw0⟩ : ∃ u, u = w.alloc (.cells #[.string nm, .int .i64 (st : Int), .slice A n c] 26) := ⟨_, rfl⟩
  rw [← hw0] at b0 K0 ⊢
  clear hw0
  have H0 := h.up b0
  have k0 := K0.cell 0; have k1 := K0.cell 1; have k2 := K0.cell 2
  simp only [List.getElem?_cons_zero, List.getElem?_cons_succ] at k0 k1 k2
  refine (spec_l1Rounds (by omega : st ≤ 8)).mono ?_; rintro e w' ⟨rfl, rfl⟩
  go_wp2_with fail
  refine (spec_l4Head (nm := nm) (c := c) HN.out H0 (by omega) HS.out (by omega : st ≤ 8)).mono ?_; rintro e w1 ⟨rfl, hb1⟩
  go_wp2_with fail
  refine (spec_l1Order HH.out).mono ?_; rintro e w2 ⟨K, rfl, hK1, hK2, rfl⟩
  have B1 := below_go b0 hb1
  have K1 := K0.up hb1
  have H1 := H0.up hb1
  have R1 := Lib.hid H1
  have KK := Lib.hid K1
  clear H0 K0 k0 k1 k2 h K1 H1 hb1
  have hsz1 := B1.size
  go_wp2
  go_loopw [3, 4, 5] (fun v hh i wr => ∃ (k m : Nat) (A' : Option Addr) (c' : Nat) (L : List ByteArray) (x : ByteArray), k ≤ K ∧ i = .int .i64 k ∧ hh = .string x ∧ v = .slice A' m c' ∧ Hid (m = (K - k) * n) ∧ Hid (RowN st x) ∧ Hid (∀ s ∈ L, RowN st s) ∧ Hid (Owned strE 1 9 wr w1.heap.size A' m c' L) ∧ Below w1.heap.size w1 wr) (fun _ _ i _ => (intOf i).toNat)
  case atStart => exact ⟨K, 0, none, 0, [], roundsS st, Nat.le_refl _, rfl, rfl, rfl, Lib.hid (by rw [Nat.sub_self, Nat.zero_mul]), Lib.hid hR, Lib.hid (fun s hs => by cases hs), Lib.hid (Owned.nil strE_len _ _ _), Below.refl _ _⟩
  case round =>
    obtain ⟨k, m, A2, c2, L, x, hk, rfl, rfl, rfl, hm, HX, HL, HO, hb⟩ := hrel
    rename World => wr
    by_cases h1 : 0 < k
    · have hI : (0 : Int) < (k : Int) := by omega
      have KR := KK.out.up hb
      have k2 := KR.cell 2
      simp only [List.getElem?_cons_zero, List.getElem?_cons_succ] at k2
      have hx8 : x.size ≤ 8 := by rw [HX.out.2]; omega
      have hm1 : m + n ≤ 16777216 := by
        have h2 : (K - k) * n ≤ 720 * 12 := Nat.mul_le_mul (by omega) hz
        have := hm.out
        omega
      have hsz := hb.size
      clear KR
      go_wp2_with fail
      refine (spec_l4Lead hx8 HN.out (R1.out.up hb) (by omega) HS.out).mono ?_; rintro e w5 ⟨A5, c5, rfl, ho5, hb5⟩
      have HO5 := Lib.hid (HO.out.up hb5)
      have HR5 := Lib.hid ho5.recs
      have hsz5 := hb5.size
      have HX5 := Lib.hid (rAt_row HX.out l n)
      have HL5 := Lib.hid (rowsL_row HX.out l n)
      have hrl : (rowsL x l n).length = n := rowsL_len _ _ _
      obtain ⟨R5, hR5⟩ : ∃ R5, R5 = rowsL x l n := ⟨_, rfl⟩
      obtain ⟨x5, hx5⟩ : ∃ x5, x5 = rAt x l n := ⟨_, rfl⟩
      rw [← hR5] at HR5 HL5 hrl
      rw [← hx5] at HX5 ⊢
      clear hR5 hx5 ho5
      go_wp2_with (first | (at_builtin; go_must ((refine wpList_append_recs Try.elStr strE_one rfl (.tmp 25) (.tmp 26) rfl rfl HO5.out rfl HR5.out hrl ?_ (by decide) ?_ ?_; (focus (first | omega | (simp only [World.size_alloc]; done) | (simp only [World.size_alloc]; omega) | (simp; done) | (simp; omega))); omega; intro A6 c6 w6 ho6 hg6 hl6; have HO6 := Lib.hid ho6; have HB6 := Lib.hid (grown_base hg6 (by omega) (fun k hk => (HO5.out.blk hk).1)); clear ho6 hg6 hl6))))
      go_roundw
      case rel => exact ⟨k - 1, m + n, A6, c6, L ++ R5, x5, by omega, by go_num, rfl, rfl, Lib.hid (by rw [show K - (k - 1) = (K - k) + 1 by omega, Nat.succ_mul, ← hm.out]), HX5, Lib.hid (fun s hs => by
          rcases List.mem_append.1 hs with hs | hs
          · exact HL.out s hs
          · exact HL5.out s hs), HO6, (below_go hb hb5).trans HB6.out⟩
      case measure => simp [intOf]; omega
    · obtain rfl : k = 0 := by omega
      go_wp2
      go_ret
      have hKn : 1 * 1 ≤ (K - 0) * n := Nat.mul_le_mul (by omega) h0
      have hKn2 : (K - 0) * n ≤ 720 * 12 := Nat.mul_le_mul (by omega) hz
      have hm2 := hm.out
      exact ⟨_, m, _, L, rfl, by omega, by omega, HL, HO.out.base_le hsz1, below_go B1 hb⟩
end Go.Proofs.Ytpccbmndgdiloaa
