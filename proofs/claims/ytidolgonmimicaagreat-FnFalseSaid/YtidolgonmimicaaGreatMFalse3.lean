/- Texts 3 of 6 that the claim leans on: plain laws and the walks' contracts, in order. -/
import Derived.Test.YtidolgonmimicaaGreatMFalse2
import Derived.Test.YtidolgonmimicaaGreatRows
import Derived.StillTailTactics
import Derived.Laws.BytesArg
import Derived.Deep.RegionHeld3
import Derived.Maps.StringElems
import Derived.Maps.RangeWalk
import Derived.Sort.KeysCollected
import Derived.Shelf.Small.Strs
import Derived.Shelf.Strings.Search1
import Derived.Shelf.Sort.Plain
import Derived.Shelf.Bits.Mul64
import Derived.Test.YtidolgonmimicaaGreatProg
import Derived.Sort.OwnSorted
/- The walk through the list of all changes, the reference's side. -/
namespace Go.Proofs.YtidolgonmimicaaGreat
set_option linter.unusedVariables false
set_option linter.unusedSimpArgs false
open Go.ChangeShapes Go.WideShapes Go.ChangeAt Go.RowKit Go.Deep
theorem ins_at {α : Type} {M : List α} {y : α} {q : Nat} (h : q ≤ M.length) : (M.take q ++ y :: M.drop q)[q]? = some y := by
  rw [List.getElem?_append_right (by rw [List.length_take]; omega), List.length_take, Nat.min_eq_left h, Nat.sub_self, List.getElem?_cons_zero]
theorem ins_before {α : Type} {M : List α} {y : α} {q : Nat} (h : q < M.length) : (M.take (q + 1) ++ y :: M.drop (q + 1))[q]? = M[q]? := by
  rw [List.getElem?_append_left (by rw [List.length_take]; omega), List.getElem?_take, if_pos (by omega)]
theorem ins_set {α : Type} {M : List α} {y z : α} {q : Nat} (h : q ≤ M.length) : (M.take q ++ y :: M.drop q).set q z = M.take q ++ z :: M.drop q := by
  rw [List.set_append_right _ _ (by rw [List.length_take]; omega), List.length_take, Nat.min_eq_left h, Nat.sub_self, List.set_cons_zero]
theorem ins_down {α : Type} {M : List α} {y z : α} {q : Nat} (hz : M[q]? = some z) : (M.take (q + 1) ++ y :: M.drop (q + 1)).set (q + 1) z = M.take q ++ z :: M.drop q := by
  have h := (List.getElem?_eq_some_iff.1 hz).1
  rw [ins_set (by omega), take_succ_some hz, List.append_assoc]
  congr 1
  rw [List.drop_eq_getElem_cons h, (List.getElem?_eq_some_iff.1 hz).2]; rfl
theorem ins_len {α : Type} {M : List α} {y : α} {q : Nat} (h : q ≤ M.length) : (M.take q ++ y :: M.drop q).length = M.length + 1 := by
  rw [List.length_append, List.length_cons, List.length_take, List.length_drop]; omega
theorem ins_perm {α : Type} {M : List α} {y : α} {q : Nat} : (M.take q ++ y :: M.drop q).Perm (M ++ [y]) := by
  refine (List.perm_middle).trans ?_
  rw [List.take_append_drop]
  exact (List.perm_append_singleton y M).symm
theorem filt_hit {f : ByteArray → Bool} {g : List Int → ByteArray} {T : List (List Int)} {j : Nat} {r : List Int} (hr : T[j]? = some r) (h : f (g r) = true) : ((T.take (j + 1)).map g).filter f = ((T.take j).map g).filter f ++ [g r] := by
  rw [take_succ_some hr, List.map_append, List.filter_append]
  simp [h]
theorem filt_miss {f : ByteArray → Bool} {g : List Int → ByteArray} {T : List (List Int)} {j : Nat} {r : List Int} (hr : T[j]? = some r) (h : f (g r) = false) : ((T.take (j + 1)).map g).filter f = ((T.take j).map g).filter f := by
  rw [take_succ_some hr, List.map_append, List.filter_append]
  simp [h]
set_option maxHeartbeats 2000000 in
set_option maxRecDepth 100000 in
theorem spec_l2All {n : Nat} {w : World} (hn : n ≤ 8) :
    Calls Tryz.prog 224 #[.int .i64 n] w fun e w' => ∃ A c L, e = .returned (.slice A L.length c) ∧ Owned strE 1 9 w' w.heap.size A L.length c L ∧ L.Perm (chsRaw n) ∧ Below w.heap.size w w' := by
  have hlen := fromK_le (k := n) hn 1
  have HR := Lib.hid (fromK_row n 1)
  have HC : Hid (chsRaw n = ((fromK 1 n).map ofPl).filter fun c => goodChange n c) := Lib.hid rfl
  go_in
  go_wp2_with fail
  refine (spec_l2From n n 1 w hn hn (by omega) (Nat.le_refl _)).mono ?_; rintro e w1 ⟨vs, A1, c1, rfl, L1, hb1⟩
  obtain ⟨T, hT⟩ : ∃ T, T = fromK 1 n := ⟨_, rfl⟩
  rw [← hT] at hlen HR HC L1 ⊢
  clear hT
  go_wp2
  go_loopw [3, 11] (fun v i wr => ∃ (j : Nat) (M : List ByteArray) (A' : Option Addr) (c' : Nat), j ≤ T.length ∧ i = .int .i64 j ∧ v = .slice A' M.length c' ∧ M.length ≤ j ∧ Hid (M.Perm (((T.take j).map ofPl).filter fun c => goodChange n c)) ∧ Hid (Owned strE 1 9 wr w1.heap.size A' M.length c' M) ∧ Below w1.heap.size w1 wr) (fun _ i _ => T.length - (intOf i).toNat)
  case atStart => exact ⟨0, [], none, 0, Nat.zero_le _, rfl, rfl, Nat.le_refl _, Lib.hid (by simp), Lib.hid (Owned.nil strE_len _ _ _), Below.refl _ _⟩
  case round =>
    obtain ⟨j, M, A', c', hj, rfl, rfl, hm, HP, HO, hb⟩ := hrel
    rename World => wo
    by_cases hlt : j < T.length
    · obtain ⟨b3, o3, v, r, rfl, hbb, hr, hv, hc, ho⟩ := (L1.up hb).at_ hlt
      have hrr := HR.out r (List.mem_of_getElem? hr)
      have hrb : ∀ x ∈ r, 0 ≤ x ∧ x ≤ 9 := fun x hx => by have := hrr.2 x hx; omega
      have hrl : r.length ≤ 8 := by omega
      have hsz := hb.size
      have hos := ofPl_size hrl
      have HRr := Lib.hid hr
      clear hr hv hrr
      go_wp2_with fail
      refine (spec_l2Of rfl ho.recs hrl hrb).mono ?_; rintro e w2 ⟨rfl, hb2⟩
      obtain ⟨s, hs⟩ : ∃ s, s = ofPl r := ⟨_, rfl⟩
      rw [← hs] at hos ⊢
      have HS := Lib.hid hs
      clear hs ho hc hrb
      go_wp2_with fail
      refine (spec_l2Change (by omega) (by unfold I64; omega)).mono ?_; rintro e w' ⟨rfl, rfl⟩
      have hbt := hb.trans (hb2.mono hsz)
      have hsz2 := hb2.size
      rcases hg : goodChange n s
      · have e1 := Lib.hid (filt_miss (f := fun c => goodChange n c) (g := ofPl) HRr.out (by rw [← HS.out]; exact hg))
        go_wp2
        go_roundw
        case rel => exact ⟨j + 1, M, A', c', by omega, by go_num, rfl, by omega, Lib.hid (by rw [e1.out]; exact HP.out), Lib.hid (HO.out.up hb2), hbt⟩
        case measure => simp [intOf]; omega
      · have e1 := Lib.hid (filt_hit (f := fun c => goodChange n c) (g := ofPl) HRr.out (by rw [← HS.out]; exact hg))
        have HO2 := Lib.hid (HO.out.up hb2)
        go_wp2_with (first | (at_builtin; go_must ((refine wpList_append_rec Tryz.elStr rfl (.tmp 23) (.tmp 25) rfl rfl (HO2.out.alloc _) s rfl (Box.at_ _ [.string s] _ ?_) (strE_one _) ?_ (by decide) ?_ ?_; (focus (first | omega | (simp only [World.size_alloc]; done) | (simp only [World.size_alloc]; omega) | (simp; done) | (simp; omega))); (focus (first | omega | (simp only [World.size_alloc]; done) | (simp only [World.size_alloc]; omega) | (simp; done) | (simp; omega))); (focus (first | omega | (simp only [World.size_alloc]; done) | (simp only [World.size_alloc]; omega) | (simp; done) | (simp; omega))); intro A3 c3 w3 ho3 hg3 hb3))))
        have hb3' : Below w1.heap.size w1 w3 := (hbt.alloc (by omega) _).trans hb3
        have h0 : Hid (Owned strE 1 9 w3 w1.heap.size A3 (M.length + 1) c3 (M.take M.length ++ s :: M.drop M.length)) := Lib.hid (by rw [List.take_of_length_le (Nat.le_refl _), List.drop_length]; exact ho3)
        clear ho3 hg3
        go_loopw [7] (fun k wr => ∃ (q : Nat) (y : ByteArray), q ≤ M.length ∧ k = .int .i64 q ∧ Hid (Owned strE 1 9 wr w1.heap.size A3 (M.length + 1) c3 (M.take q ++ y :: M.drop q)) ∧ Below w1.heap.size w1 wr) (fun k _ => (intOf k).toNat)
        case atStart => exact ⟨M.length, s, Nat.le_refl _, rfl, h0, hb3'⟩
        case round =>
          obtain ⟨q, y, hq, rfl, HQ, hbq⟩ := hrel
          obtain ⟨g, rfl, _, lg, hcell, hfz⟩ := HQ.out.at_ (by omega)
          have cy := hcell q y 0 _ (ins_at hq) rfl
          have fq := hfz q
          have pt := Lib.hid (HQ.out.put (j := 0) (x := s) (u := .string s) (ins_at hq) (by decide) rfl)
          simp only [Nat.mul_one, Nat.add_zero] at cy
          have PT : Hid (Owned strE 1 9 (wr.setCell ⟨g, q, none⟩ (.string s)) w1.heap.size (some ⟨g, 0, none⟩) (M.length + 1) c3 (M.take q ++ s :: M.drop q)) := Lib.hid (by have h := pt.out.1; simp only [Nat.mul_one, Nat.add_zero] at h; rw [ins_set hq] at h; exact h)
          have PB : Below w1.heap.size w1 (wr.setCell ⟨g, q, none⟩ (.string s)) := hbq.setCell (HQ.out.at_own).1 _
          have il := Lib.hid (ins_len (y := s) hq)
          have EP : Hid ((M.take q ++ s :: M.drop q).Perm (((T.take (j + 1)).map ofPl).filter fun c => goodChange n c)) := Lib.hid (by rw [e1.out, ← HS.out]; exact ins_perm.trans (HP.out.append_right [s]))
          rcases q with _ | q
          · clear hcell hfz pt
            go_wp2
            go_roundw
            case rel => exact ⟨j + 1, M.take 0 ++ s :: M.drop 0, _, c3, by omega, by go_num, by rw [il.out], by rw [il.out]; omega, EP, by rw [il.out]; exact PT, PB⟩
            case measure => simp [intOf]; omega
          · obtain ⟨z, hz⟩ := some_of_lt (l := M) (k := q) (by omega)
            have cz := hcell q z 0 _ ((ins_before (by omega)).trans hz) rfl
            simp only [Nat.mul_one, Nat.add_zero] at cz
            have HZ := Lib.hid (ins_down (y := y) hz)
            clear hcell hfz pt hz
            rcases hgt : less s z
            · obtain ⟨l1, l2⟩ := less_no hgt
              rcases l2 with l2 | ⟨l2, l3⟩
              all_goals
                go_wp2
                go_roundw
                case rel => exact ⟨j + 1, M.take (q + 1) ++ s :: M.drop (q + 1), _, c3, by omega, by go_num, by rw [il.out], by rw [il.out]; omega, EP, by rw [il.out]; exact PT, PB⟩
                case measure => simp [intOf]; omega
            · obtain ⟨l1, l2, l3⟩ := less_yes hgt
              have PZ := Lib.hid (HQ.out.put (j := 0) (x := z) (u := .string z) (ins_at hq) (by decide) rfl)
              have PZ2 : Hid (Owned strE 1 9 (wr.setCell ⟨g, q + 1, none⟩ (.string z)) w1.heap.size (some ⟨g, 0, none⟩) (M.length + 1) c3 (M.take q ++ z :: M.drop q)) := Lib.hid (by have h := PZ.out.1; simp only [Nat.mul_one, Nat.add_zero] at h; rw [HZ.out] at h; exact h)
              have PZ3 : Below w1.heap.size w1 (wr.setCell ⟨g, q + 1, none⟩ (.string z)) := hbq.setCell (HQ.out.at_own).1 _
              clear PZ
              go_wp2
              go_roundw
              case rel => exact ⟨q, z, by omega, rfl, PZ2, PZ3⟩
              case measure => simp [intOf]
    · obtain rfl : j = T.length := by omega
      go_wp2
      go_ret
      have h := HP.out
      rw [List.take_of_length_le (Nat.le_refl _), ← HC.out] at h
      exact ⟨_, _, M, rfl, HO.out.base_le hb1.size, h, below_go hb1 hb⟩
end Go.Proofs.YtidolgonmimicaaGreat
/- The walks through the change between two rows, both sides. -/
namespace Go.Proofs.YtidolgonmimicaaGreat
set_option linter.unusedVariables false
set_option linter.unusedSimpArgs false
open Go.ChangeShapes Go.WideShapes Go.ChangeAt Go.RowKit Go.Deep
theorem chs_len {n : Nat} (h : n ≤ 8) : (chsRaw n).length ≤ 34 := by
  rw [chsRaw]
  exact Nat.le_trans (List.length_filter_le _ _) (by rw [List.length_map]; exact fromK_le h 1)
theorem btw_eq {a b : ByteArray} {k i : Nat} {sw : Bool} (h : PlainAid.bt a i = PlainAid.bt b i) : btwK a b (k + 1) i sw = btwK a b k (i + 1) sw := by
  rcases k with _ | k
  · show (if PlainAid.bt a i = PlainAid.bt b i then sw else false) = sw
    exact if_pos h
  · rw [btwK, if_pos h]
theorem btw_no1 {a b : ByteArray} {i : Nat} {sw : Bool} (h : ¬ PlainAid.bt a i = PlainAid.bt b i) : btwK a b 1 i sw = false := by rw [btwK, if_neg h]
theorem btw_swap {a b : ByteArray} {k i : Nat} {sw : Bool} (h : ¬ PlainAid.bt a i = PlainAid.bt b i) (h1 : PlainAid.bt a i = PlainAid.bt b (i + 1)) (h2 : PlainAid.bt a (i + 1) = PlainAid.bt b i) : btwK a b (k + 2) i sw = btwK a b k (i + 2) true := by
  rw [btwK, if_neg h, if_pos ⟨h1, h2⟩]
theorem btw_no {a b : ByteArray} {k i : Nat} {sw : Bool} (h : ¬ PlainAid.bt a i = PlainAid.bt b i) (h1 : ¬ (PlainAid.bt a i = PlainAid.bt b (i + 1) ∧ PlainAid.bt a (i + 1) = PlainAid.bt b i)) : btwK a b (k + 2) i sw = false := by
  rw [btwK, if_neg h, if_neg h1]
theorem spec_l1Two {a b : ByteArray} {w : World} (ha : goodRow a = true) (hb : goodRow b = true) (e : a.size = b.size) :
    Calls Tryz.prog 128 #[.string a, .string b] w fun e w' => e = .returned (.bool true) ∧ Below w.heap.size w w' := by
  have h1 := goodRow_n ha; have h2 := goodRow_n hb
  have e1 : ((a.size : Int) == (b.size : Int)) = true := beq_iff_eq.2 (by omega)
  have HA := Lib.hid ha; have HB := Lib.hid hb
  clear ha hb e
  go_in
  go_wp2_with fail
  refine (spec_l1Row (by omega)).mono ?_; rw [HA.out]; rintro e w1 ⟨rfl, hb1⟩
  go_wp2_with fail
  refine (spec_l1Row (by omega)).mono ?_; rw [HB.out]; rintro e w2 ⟨rfl, hb2⟩
  go_wp2
  go_ret
  exact ⟨rfl, below_go hb1 hb2⟩
end Go.Proofs.YtidolgonmimicaaGreat
/- The walks through lists of changes between rows, truth by sorting, factorials, and extents. -/
namespace Go.Proofs.YtidolgonmimicaaGreat
set_option linter.unusedVariables false
set_option linter.unusedSimpArgs false
open Go.ChangeShapes Go.WideShapes Go.ChangeAt Go.RowKit Go.Deep
theorem fact_le : ∀ k, k < 9 → fact k ≤ 40320 := of_decide_eq_true (by kernel_rfl)
theorem fact_one {n : Nat} (h : n ≤ 1) : fact n = 1 := by
  rcases n with _ | _ | n
  · rfl
  · rfl
  · omega
theorem spec_l1Fact {n : Nat} {w : World} (hn : n ≤ 8) :
    Calls Tryz.prog 185 #[.int .i64 n] w fun e w' => e = .returned (.int .i64 (fact n)) ∧ w = w' := by
  have HF : Hid (∀ k, fact (k + 1) = (k + 1) * fact k) := Lib.hid (fun _ => rfl)
  have hfn := fact_le n (by omega)
  go_in
  go_wp2
  go_loopw [0, 3] (fun i v wr => ∃ (k q : Nat), k ≤ n ∧ i = .int .i64 k ∧ v = .int .i64 q ∧ q ≤ 40320 ∧ Hid (q * fact k = fact n) ∧ w = wr) (fun i _ _ => (intOf i).toNat)
  case atStart => exact ⟨n, 1, Nat.le_refl _, rfl, rfl, by omega, Lib.hid (Nat.one_mul _), rfl⟩
  case round =>
    obtain ⟨k, q, hk, rfl, rfl, hq, HQ, rfl⟩ := hrel
    by_cases hlt : 1 < k
    · obtain ⟨m, rfl⟩ : ∃ m, k = m + 1 := ⟨k - 1, by omega⟩
      have hI : (1 : Int) < (m : Int) + 1 := by omega
      have h2 := Lib.hid (show q * (m + 1) * fact m = fact n by rw [Nat.mul_assoc, ← HF.out, HQ.out])
      have h3 : q * (m + 1) ≤ 40320 := Nat.le_trans (Nat.le_mul_of_pos_right _ (fact_pos m)) (by rw [h2.out]; exact hfn)
      have h4 : ((q : Int) * ((m : Int) + 1)) = ((q * (m + 1) : Nat) : Int) := by rw [Int.natCast_mul]; rfl
      have h5 : 0 ≤ (q : Int) * ((m : Int) + 1) ∧ (q : Int) * ((m : Int) + 1) ≤ 40320 := by rw [h4]; omega
      have H4 := Lib.hid h4
      obtain ⟨h6, h7⟩ := h5
      clear h4
      go_wp2
      go_roundw
      case rel => exact ⟨m, q * (m + 1), by omega, by first | go_num | rfl, by rw [H4.out], h3, Lib.hid h2.out, trivial⟩
      case measure => simp [intOf]
    · have hI : ¬ (1 : Int) < (k : Int) := by omega
      have e1 := Lib.hid (show q = fact n by rw [← HQ.out, fact_one (by omega : k ≤ 1), Nat.mul_one])
      go_wp2
      go_ret
      rw [← e1.out]
      exact ⟨rfl, rfl⟩
set_option maxRecDepth 100000 in
theorem spec_l7True {A : Option Addr} {N c : Nat} {l : List ByteArray} {w : World} (hN : l.length = N) (h : Strs w A l) (hz : N ≤ 16000000) (hs : ∀ s ∈ l, s.size ≤ 16777216) :
    Calls Tryz.prog 108 #[.slice A N c] w fun e w' => e = .returned (.bool (nodupB l)) ∧ Below w.heap.size w w' := by
  go_in
  go_wp2_with fail
  refine (spec_l6Sort N A c l w hN h hz hs).mono ?_; rintro e w1 ⟨A1, c1, L, rfl, ho, hp, hS, hb1⟩
  have HE := Lib.hid (show nodupB l = true ↔ ∀ k, 1 ≤ k → k < L.length → nextEq L k = false by
    rw [nodupB, decide_eq_true_iff, ← hp.nodup_iff]; exact srt_nodup hS)
  have hL := ho.len
  subst hL
  clear hp hS hN h hs
  go_wp2
  go_loopw [4] (fun i wr => ∃ k : Nat, 1 ≤ k ∧ (k ≤ L.length ∨ k = 1) ∧ i = .int .i64 k ∧ Hid (∀ j, 1 ≤ j → j < k → nextEq L j = false) ∧ Below w1.heap.size w1 wr) (fun i _ => L.length - (intOf i).toNat)
  case atStart => exact ⟨1, Nat.le_refl _, .inr rfl, rfl, Lib.hid (fun j h1 h2 => absurd h1 (by omega)), Below.refl _ _⟩
  case round =>
    obtain ⟨k, hk0, hk, rfl, HK, hb⟩ := hrel
    by_cases hlt : k < L.length
    · obtain ⟨q, rfl⟩ : ∃ q, k = q + 1 := ⟨k - 1, by omega⟩
      obtain ⟨b3, o3, y, rfl, _, hy, hcy⟩ := (ho.up hb).recs.at_str hlt
      obtain ⟨b4, o4, x, e, _, hx, hcx⟩ := (ho.up hb).recs.at_str (k := q) (by omega)
      injection e with e
      injection e with e1 e2
      subst e1 e2
      have HX := Lib.hid (nextEq_at (k := q + 1) hx hy)
      have hw1 := wrap_id (x := (q : Int) + 1 - 1) (by omega)
      have hw2 : (q : Int) + 1 - 1 = (q : Int) := by omega
      have hw3 := wrap_id (x := (q : Int)) (by omega)
      clear hx hy ho
      by_cases hxy : y = x
      · have e1 := Lib.hid (show nodupB l = false by
          rcases hq : nodupB l
          · rfl
          · have := HE.out.1 hq (q + 1) (by omega) hlt
            rw [HX.out, decide_eq_true hxy] at this; cases this)
        have e2 : (y.toList == x.toList) = true := by rw [hxy]; simp
        clear hxy
        go_wp2
        go_quiet (fail)
        clear hw1 hw2 hw3
        go_wp2
        go_ret
        rw [e1.out]
        exact ⟨rfl, by (repeat' (first | (with_reducible exact Below.refl _ _) | (with_reducible assumption) | (with_reducible refine below_drewN ?_ _) | (with_reducible refine Below.drew ?_) | (with_reducible refine below_alloc ?_ _) | (with_reducible refine Below.alloc ?_ ?_ _) | (with_reducible refine Below.setCell ?_ ?_ _) | (with_reducible refine below_go ?_ (by with_reducible assumption)) | (with_reducible refine below_then (by with_reducible assumption) ?_ ?_) | go_size))⟩
      · have e2 : (y.toList == x.toList) = false := by
          rw [beq_eq_false_iff_ne]; exact fun q => hxy (toList_inj q)
        have HN := Lib.hid (show nextEq L (q + 1) = false by rw [HX.out, decide_eq_false hxy])
        clear hxy
        go_wp2
        go_quiet (fail)
        clear hw1 hw2 hw3
        go_wp2
        go_roundw
        case rel => exact ⟨q + 2, by omega, by omega, by go_num, Lib.hid (fun j h1 h2 => by
          rcases Nat.lt_succ_iff_lt_or_eq.1 h2 with h | rfl
          · exact HK.out j h1 h
          · exact HN.out), by (repeat' (first | (with_reducible exact Below.refl _ _) | (with_reducible assumption) | (with_reducible refine below_drewN ?_ _) | (with_reducible refine Below.drew ?_) | (with_reducible refine below_alloc ?_ _) | (with_reducible refine Below.alloc ?_ ?_ _) | (with_reducible refine Below.setCell ?_ ?_ _) | (with_reducible refine below_go ?_ (by with_reducible assumption)) | (with_reducible refine below_then (by with_reducible assumption) ?_ ?_) | go_size))⟩
        case measure => simp [intOf]; omega
    · have e1 := Lib.hid (show nodupB l = true from HE.out.2 (fun j h1 h2 => HK.out j h1 (by omega)))
      go_wp2
      go_ret
      rw [e1.out]
      exact ⟨rfl, below_go hb1 hb⟩
/-- Row k of a list of rows, cyclically. -/
def cyc (l : List ByteArray) (k : Nat) : ByteArray := l.getD (k % l.length) ByteArray.empty
def nextAt (l : List ByteArray) (k : Nat) : Bool := btwB (cyc l k) (cyc l (k + 1))
def nextsB (l : List ByteArray) : Bool := (List.range l.length).all (nextAt l)
theorem cyc_at {l : List ByteArray} {k : Nat} {x : ByteArray} (h : l[k]? = some x) : cyc l k = x := by
  have := (List.getElem?_eq_some_iff.1 h).1
  rw [cyc, Nat.mod_eq_of_lt this, List.getD, h]; rfl
theorem cyc_last {l : List ByteArray} {x : ByteArray} (h : l[0]? = some x) : cyc l l.length = x := by
  rw [cyc, Nat.mod_self, List.getD, h]; rfl
theorem btw_self (a : ByteArray) : ∀ (k i : Nat) (sw : Bool), btwK a a k i sw = sw
  | 0, _, _ => by rw [btwK]
  | k + 1, i, sw => by rw [btw_eq rfl, btw_self a k]
theorem nexts_one {l : List ByteArray} (h : l.length = 1) : nextsB l = false := by
  match l, h with
  | [x], _ =>
    show (List.all [0] (nextAt [x])) = false
    simp [nextAt, cyc, btwB, btw_self]
theorem goodRows_size {l : List ByteArray} (h : goodRows l = true) {i j : Nat} {x y : ByteArray} (hx : l[i]? = some x) (hy : l[j]? = some y) : x.size = y.size := by
  rw [goodRows, Bool.and_eq_true, List.all_eq_true] at h
  have key : ∀ (k : Nat) (z : ByteArray), l[k]? = some z → z.size = (l.getD 0 ByteArray.empty).size := fun k z hz => by
    have := h.1 k (List.mem_range.2 (List.getElem?_eq_some_iff.1 hz).1)
    rw [okRow, Bool.and_eq_true, List.getD, hz] at this
    simpa using this.2
  rw [key i x hx, key j y hy]
/-! extents -/
def smallR (l : List ByteArray) : Bool := goodRows l && (decide (0 < l.length) && decide ((l.getD 0 ByteArray.empty).size ≤ 6))
def extR (l : List ByteArray) : Bool := smallR l && (nextsB l && (nodupB l && (l.length == fact (l.getD 0 ByteArray.empty).size)))
theorem small_t {l : List ByteArray} (h : smallR l = true) : goodRows l = true ∧ 0 < l.length ∧ ∀ x, l[0]? = some x → x.size ≤ 6 := by
  simp only [smallR, Bool.and_eq_true, decide_eq_true_eq] at h
  exact ⟨h.1, h.2.1, fun x hx => by have := h.2.2; rw [List.getD, hx] at this; exact this⟩
end Go.Proofs.YtidolgonmimicaaGreat
/- The laws' own conversions of []string: copying, comparing, counting, marking. -/
namespace Go.Proofs.YtidolgonmimicaaGreat
set_option linter.unusedVariables false
set_option linter.unusedSimpArgs false
open Go.ChangeShapes Go.WideShapes Go.ChangeAt Go.RowKit Go.Deep
theorem bytes_same {a b : ByteArray} (h : (a.toList == b.toList) = true) : a = b := by
  have h1 : a.toList = b.toList := by simpa using h
  rw [ByteArray.toList_eq, ByteArray.toList_eq] at h1
  cases a; cases b
  congr 1
  exact Array.ext' h1
/-- The room that a list of texts takes. -/
def szS (l : List ByteArray) : Int := (l.map fun s => (s.size : Int)).sum + l.length
theorem szS_nil : szS [] = 0 := rfl
theorem szS_cons (s : ByteArray) (l : List ByteArray) : szS (s :: l) = (s.size : Int) + szS l + 1 := by simp only [szS, List.map_cons, List.sum_cons, List.length_cons]; omega
theorem szS_len : ∀ (l : List ByteArray), (l.length : Int) ≤ szS l
  | [] => by simp [szS]
  | s :: l => by have := szS_len l; rw [szS_cons, List.length_cons]; omega
theorem szS_each : ∀ (l : List ByteArray) (s : ByteArray), s ∈ l → (s.size : Int) ≤ szS l
  | x :: l, s, h => by
    rw [szS_cons]
    have h0 := szS_len l
    rcases List.mem_cons.1 h with rfl | h
    · omega
    · have := szS_each l s h
      omega
/-- The digits of k ahead of a text. -/
def dgt (n : Nat) : ByteArray := strOfNums [48 + (n : Int) % 10]
theorem dgt_size (n : Nat) : (dgt n).size = 1 := rfl
def mkD (k : Nat) (out : ByteArray) : ByteArray := if k = 0 then out else mkD (k / 10) (dgt k ++ out)
termination_by k
decreasing_by omega
theorem mkD_0 (out : ByteArray) : mkD 0 out = out := by rw [mkD, if_pos rfl]
theorem mkD_pos {k : Nat} (h : 0 < k) (out : ByteArray) : mkD k out = mkD (k / 10) (dgt k ++ out) := by rw [mkD, if_neg (by omega)]
def markT (k : Nat) : ByteArray := ⟨#[109]⟩ ++ mkD k ByteArray.empty
def markS (k0 : Int) (j : Nat) : ByteArray := markT (k0 + (j : Int)).toNat
end Go.Proofs.YtidolgonmimicaaGreat
/- The reference's comparison of two lists of texts; the laws' comparison of equal ones. -/
namespace Go.Proofs.YtidolgonmimicaaGreat
set_option linter.unusedVariables false
set_option linter.unusedSimpArgs false
open Go.ChangeShapes Go.WideShapes Go.ChangeAt Go.RowKit Go.Deep
set_option maxRecDepth 100000 in
theorem spec_sameS (A C : Option Addr) (n n' c d : Nat) (l m : List ByteArray) (w : World) (hn : l.length = n) (hn' : m.length = n') (h : Recs strE 1 w A l) (g : Recs strE 1 w C m) (hz : n ≤ 16777216) (hz' : n' ≤ 16777216) :
    Calls Tryz.prog 112 #[.slice A n c, .slice C n' d] w fun e w' => e = .returned (.bool (decide (l = m))) ∧ Below w.heap.size w w' := by
  subst hn hn'
  by_cases hl : l.length = m.length
  · have HL := Lib.hid hl
    rw [← hl]
    clear hl
    go_in
    go_wp2
    go_loopw [13] (fun i wr => ∃ k : Nat, k ≤ l.length ∧ i = .int .i64 k ∧ Hid (∀ j, j < k → l[j]? = m[j]?) ∧ Below w.heap.size w wr) (fun i _ => l.length - (intOf i).toNat)
    case atStart => exact ⟨0, Nat.zero_le _, rfl, Lib.hid (fun j hj => absurd hj (by omega)), Below.refl _ _⟩
    case round =>
      obtain ⟨k, hk, rfl, HT, hb⟩ := hrel
      by_cases hlt : k < l.length
      · obtain ⟨b1, o1, x, rfl, _, hx, hcx⟩ := (h.below hb (Nat.le_refl _)).at_str hlt
        obtain ⟨b2, o2, y, rfl, _, hy, hcy⟩ := (g.below hb (Nat.le_refl _)).at_str (by rw [← HL.out]; exact hlt)
        have HX := Lib.hid hx
        have HY := Lib.hid hy
        clear hx hy h g
        rcases hne : (x.toList == y.toList)
        · have he := Lib.hid hne
          go_wp2
          go_quiet (fail)
          go_wp2
          go_ret
          refine ⟨ret_bool ?_, by (repeat' (first | (with_reducible exact Below.refl _ _) | (with_reducible assumption) | (with_reducible refine below_drewN ?_ _) | (with_reducible refine Below.drew ?_) | (with_reducible refine below_alloc ?_ _) | (with_reducible refine Below.alloc ?_ ?_ _) | (with_reducible refine Below.setCell ?_ ?_ _) | (with_reducible refine below_go ?_ (by with_reducible assumption)) | (with_reducible refine below_then (by with_reducible assumption) ?_ ?_) | go_size))⟩
          have hd : l ≠ m := fun e => by
            have h1 := HX.out
            rw [e, HY.out] at h1
            injection h1 with h1
            have h2 := he.out
            rw [h1] at h2
            simp at h2
          simp [hd]
        · have he := Lib.hid hne
          go_wp2
          go_quiet (fail)
          go_wp2
          go_roundw
          case rel => exact ⟨k + 1, by omega, by go_num, Lib.hid (upto_succ HT.out (by rw [HX.out, HY.out, bytes_same he.out])), by (repeat' (first | (with_reducible exact Below.refl _ _) | (with_reducible assumption) | (with_reducible refine below_drewN ?_ _) | (with_reducible refine Below.drew ?_) | (with_reducible refine below_alloc ?_ _) | (with_reducible refine Below.alloc ?_ ?_ _) | (with_reducible refine Below.setCell ?_ ?_ _) | (with_reducible refine below_go ?_ (by with_reducible assumption)) | (with_reducible refine below_then (by with_reducible assumption) ?_ ?_) | go_size))⟩
          case measure => simp [intOf]; omega
      · go_wp2
        go_ret
        refine ⟨ret_bool ?_, hb⟩
        have hd : l = m := eq_of_upto (fun j hj => HT.out j hj) (by omega) (by have := HL.out; omega)
        simp [hd]
  · have hne : ((l.length : Int) != (m.length : Int)) = true := by simp; omega
    have hd : l ≠ m := fun e => hl (by rw [e])
    have HD := Lib.hid hd
    clear hd hl
    go_in
    go_wp2
    go_ret
    refine ⟨ret_bool ?_, by (repeat' (first | (with_reducible exact Below.refl _ _) | (with_reducible assumption) | (with_reducible refine below_drewN ?_ _) | (with_reducible refine Below.drew ?_) | (with_reducible refine below_alloc ?_ _) | (with_reducible refine Below.alloc ?_ ?_ _) | (with_reducible refine Below.setCell ?_ ?_ _) | (with_reducible refine below_go ?_ (by with_reducible assumption)) | (with_reducible refine below_then (by with_reducible assumption) ?_ ?_) | go_size))⟩
    simp [HD.out]
set_option maxRecDepth 100000 in
theorem laws_qSameS {A B : Option Addr} {n c d : Nat} {l : List ByteArray} {w : World} (hn : l.length = n) (h : Strs w A l) (g : Strs w B l) (hz : n ≤ 16777216) :
    Calls Tryz.prog 17 #[.slice A n c, .slice B n d] w fun e w' => e = .returned (.bool true) ∧ Below w.heap.size w w' := by
  subst hn
  go_in
  go_wp2
  go_loopw [13] (fun i wr => ∃ k : Nat, k ≤ l.length ∧ i = .int .i64 k ∧ Below w.heap.size w wr) (fun i _ => l.length - (intOf i).toNat)
  case atStart => exact ⟨0, Nat.zero_le _, rfl, Below.refl _ _⟩
  case round =>
    obtain ⟨k, hk, rfl, hb⟩ := hrel
    by_cases hlt : k < l.length
    · obtain ⟨b1, o1, x, rfl, _, hx, hcx⟩ := (h.below hb (Nat.le_refl _)).at_str hlt
      obtain ⟨b2, o2, y, rfl, _, hy, hcy⟩ := (g.below hb (Nat.le_refl _)).at_str hlt
      rw [hx] at hy
      injection hy with hy
      subst hy
      clear hx h g
      go_wp2
      go_quiet (fail)
      go_wp2
      go_roundw
      case rel => exact ⟨k + 1, by omega, by go_num, below_drewN hb _⟩
      case measure => simp [intOf]; omega
    · go_wp2
      go_ret
      exact ⟨rfl, hb⟩
end Go.Proofs.YtidolgonmimicaaGreat
/- A literal of one element as a row of the call's own (where the library's sort is not on the road). -/
namespace Go.Proofs.YtidolgonmimicaaGreat
set_option linter.unusedVariables false
set_option linter.unusedSimpArgs false
open Go.ChangeShapes Go.WideShapes Go.ChangeAt Go.RowKit Go.Deep
theorem own_lit1_at' {α : Type} {e : α → List Value} {s : Nat} (he : ∀ x, (e x).length = s) (w : World) (E : TypeId) (x : α) {b base : Nat} (h : b = w.heap.size) (hb : base ≤ w.heap.size) : Owned e s E (w.alloc (.cells ⟨e x⟩ E)) base (some ⟨b, 0, none⟩) 1 1 [x] := by
  subst h
  exact ⟨he, rfl, by simpa using World.ownsRow_lit (e := E) (base := base) (size := s) w ⟨e x⟩ 1 hb (by unfold maxLen; omega) (by simp [he])⟩
end Go.Proofs.YtidolgonmimicaaGreat
/- The walks of chapter 11, the reference's side: false lead heads. -/
namespace Go.Proofs.YtidolgonmimicaaGreat
set_option linter.unusedVariables false
set_option linter.unusedSimpArgs false
open Go.ChangeShapes Go.WideShapes Go.ChangeAt Go.RowKit Go.Deep
theorem leadL_n {st n : Nat} {l : List ByteArray} (hn : l.length = n) : leadL st l = rowsL (roundsS st) l n := by rw [leadL, hn]
theorem goodM_st {nm : ByteArray} {st : Nat} {l : List ByteArray} (h : goodM nm (st : Int) l = true) : (3 ≤ st ∧ st ≤ 8) ∧ 1 ≤ l.length ∧ l.length ≤ 40 := by
  have := goodM_t h
  omega
theorem meetL_succ {L M : List ByteArray} {k : Nat} {x : ByteArray} (h : L[k]? = some x) : meetL (L.take (k + 1)) M = if inL M x = true then meetL (L.take k) M ++ [x] else meetL (L.take k) M := by
  rw [meetL, meetL, take_succ_some h, List.filter_append]
  by_cases hx : inL M x = true <;> simp [hx]
theorem meetL_len (L M : List ByteArray) (k : Nat) : (meetL (L.take k) M).length ≤ k := by
  rw [meetL]
  exact Nat.le_trans (List.length_filter_le ..) (List.length_take_le ..)
/-- The products of one row by the first k turned rows. -/
noncomputable def prodL (r : ByteArray) (L : List ByteArray) (k : Nat) : List ByteArray := (L.take k).map fun s => timesS r (turnS s)
theorem prodL_succ {r : ByteArray} {L : List ByteArray} {k : Nat} {s : ByteArray} (h : L[k]? = some s) : prodL r L (k + 1) = prodL r L k ++ [timesS r (turnS s)] := by
  rw [prodL, prodL, take_succ_some h, List.map_append]; rfl
theorem prodL_all (r : ByteArray) (L : List ByteArray) : prodL r L L.length = L.map fun s => timesS r (turnS s) := by rw [prodL, List.take_length]
/-- The products of the first k rows. -/
noncomputable def falTo (L : List ByteArray) (k : Nat) : List ByteArray := (L.take k).flatMap fun r => L.map fun s => timesS r (turnS s)
theorem falTo_succ {L : List ByteArray} {k : Nat} {r : ByteArray} (h : L[k]? = some r) : falTo L (k + 1) = falTo L k ++ prodL r L L.length := by
  rw [falTo, falTo, take_succ_some h, List.flatMap_append, prodL_all]; simp
theorem falTo_all (L : List ByteArray) : falTo L L.length = falL L := by rw [falTo, List.take_length]; rfl
theorem falTo_zero (L : List ByteArray) : falTo L 0 = [] := rfl
theorem prodL_zero (r : ByteArray) (L : List ByteArray) : prodL r L 0 = [] := rfl
theorem spec_l11Lead {A : Option Addr} {n c st : Nat} {nm : ByteArray} {l : List ByteArray} {a : ByteArray} {w : World} (ha : a.size ≤ 8) (hn : l.length = n) (h : Strs w A l) (hz : n ≤ 1048576) (hs : ∀ s ∈ l, s.size ≤ 16777216) :
    Calls Tryz.prog 109 #[.agg #[.string nm, .int .i64 st, .slice A n c], .string a] w fun e w' => ∃ A' c', e = .returned (.slice A' n c') ∧ Owned strE 1 9 w' w.heap.size A' n c' (rowsL a l n) ∧ Below w.heap.size w w' := by
  have b0 : Below w.heap.size w (w.alloc (.cells ⟨[.string nm, .int .i64 st, .slice A n c]⟩ 25)) := by (repeat' (first | (with_reducible exact Below.refl _ _) | (with_reducible assumption) | (with_reducible refine below_drewN ?_ _) | (with_reducible refine Below.drew ?_) | (with_reducible refine below_alloc ?_ _) | (with_reducible refine Below.alloc ?_ ?_ _) | (with_reducible refine Below.setCell ?_ ?_ _) | (with_reducible refine below_go ?_ (by with_reducible assumption)) | (with_reducible refine below_then (by with_reducible assumption) ?_ ?_) | go_size))
  go_in
  go_wp2_with fail
  refine (spec_l4Lead ha hn (h.up b0) (by omega) hs).mono ?_; rintro e w1 ⟨A1, c1, rfl, ho, hb1⟩
  go_wp2
  go_ret
  exact ⟨_, _, rfl, ho.base_le (by simp), below_go b0 hb1⟩
set_option maxHeartbeats 1000000 in
set_option maxRecDepth 100000 in
theorem spec_IsLeadTrue {A : Option Addr} {n c st : Nat} {nm : ByteArray} {l : List ByteArray} {w : World} (hn : l.length = n) (h : Strs w A l) (hz : n ≤ 1048576) (hs : ∀ s ∈ l, s.size ≤ 16777216) (hnm : nm.size ≤ 16777216) (h9 : st ≤ 1000) :
    Calls Tryz.prog 29 #[.agg #[.string nm, .int .i64 st, .slice A n c]] w fun e w' => e = .returned (.tuple #[.bool (ltV nm st l), .bool (goodM nm (st : Int) l)]) ∧ Below w.heap.size w w' := by
  have b0 : Below w.heap.size w (w.alloc (.cells ⟨[.string nm, .int .i64 st, .slice A n c]⟩ 25)) := by (repeat' (first | (with_reducible exact Below.refl _ _) | (with_reducible assumption) | (with_reducible refine below_drewN ?_ _) | (with_reducible refine Below.drew ?_) | (with_reducible refine below_alloc ?_ _) | (with_reducible refine Below.alloc ?_ ?_ _) | (with_reducible refine Below.setCell ?_ ?_ _) | (with_reducible refine below_go ?_ (by with_reducible assumption)) | (with_reducible refine below_then (by with_reducible assumption) ?_ ?_) | go_size))
  have K0 := Blk.at_ w 25 [.string nm, .int .i64 st, .slice A n c] (b := w.heap.size) rfl
  have HS := Lib.hid hs
  have HQ : Hid (ltV nm st l = (goodM nm (st : Int) l && nodupB (leadL st l))) := Lib.hid rfl
  have hI : I64 (st : Int) := ⟨by omega, by omega⟩
  have H0 := h.up b0
  go_in
  go_wp2_with fail
  refine (spec_l4Good hn H0 hz HS.out hnm hI).mono ?_; rintro e w1 ⟨rfl, hb1⟩
  have K1 := K0.up hb1
  have H1 := H0.up hb1
  have B1 := below_go b0 hb1
  clear K0 H0 h b0 hb1
  rcases hg : goodM nm (st : Int) l
  · have e1 := Lib.hid (show ltV nm st l = false by rw [HQ.out, hg]; rfl)
    go_wp2
    go_ret2
    rw [e1.out, hg]
    exact ⟨rfl, B1⟩
  · have e1 := Lib.hid (show ltV nm st l = nodupB (leadL st l) by rw [HQ.out, hg]; rfl)
    have h38 := (goodM_st hg).1
    have hr8 : (roundsS st).size ≤ 8 := by rw [rounds_size st (by omega)]; exact h38.2
    have HR := Lib.hid (leadL_row h38.1 h38.2 l)
    have k0 := K1.cell 0; have k1 := K1.cell 1; have k2 := K1.cell 2
    simp only [List.getElem?_cons_zero, List.getElem?_cons_succ] at k0 k1 k2
    go_upto_region 3 with fail
    refine wp_region_still_tail 4 (by kernel_rfl) (by kernel_rfl) ?_
    simp only [List.take_succ_cons, List.take_zero, List.drop_succ_cons, List.drop_zero]
    repeat still_step
    still_call (turnC (spec_l1Rounds h38.2))
    repeat still_step
    refine wpStill_nil ?_
    change wpList _ _ _ _ _ w1.drew
    go_wp2_with fail
    refine (spec_l11Lead hr8 hn H1.drew hz HS.out).mono ?_; rintro e w2 ⟨A2, c2, rfl, ho, hbd⟩
    have hb2 := below_of_drew hbd
    rw [← leadL_n hn] at ho
    go_wp2_with fail
    refine (spec_l7True (by rw [leadL_len]; exact hn) ho.recs (by omega) (fun s hs => by have h1 := (HR.out s hs).2; omega)).mono ?_; rintro e w3 ⟨rfl, hb3⟩
    go_wp2
    go_ret2
    rw [e1.out, hg]
    exact ⟨rfl, below_go (below_go B1 hb2) hb3⟩
set_option maxHeartbeats 1000000 in
set_option maxRecDepth 100000 in
theorem spec_l11Shared {A : Option Addr} {n c st : Nat} {nm : ByteArray} {l : List ByteArray} {f : ByteArray} {w : World} (hn : l.length = n) (h : Strs w A l) (hz : n ≤ 1048576) (hs : ∀ s ∈ l, s.size ≤ 16777216) (hnm : nm.size ≤ 16777216) (h9 : st ≤ 1000) (hg : goodM nm (st : Int) l = true) (hf : RowN st f) :
    Calls Tryz.prog 102 #[.agg #[.string nm, .int .i64 st, .slice A n c], .string f] w fun e w' => ∃ A' m c', e = .returned (.slice A' m c') ∧ Owned strE 1 9 w' w.heap.size A' m c' (meetL (leadL st l) ((leadL st l).map (timesS f))) ∧ m ≤ 40 ∧ Below w.heap.size w w' := by
  have b0 : Below w.heap.size w (w.alloc (.cells ⟨[.string nm, .int .i64 st, .slice A n c]⟩ 25)) := by (repeat' (first | (with_reducible exact Below.refl _ _) | (with_reducible assumption) | (with_reducible refine below_drewN ?_ _) | (with_reducible refine Below.drew ?_) | (with_reducible refine below_alloc ?_ _) | (with_reducible refine Below.alloc ?_ ?_ _) | (with_reducible refine Below.setCell ?_ ?_ _) | (with_reducible refine below_go ?_ (by with_reducible assumption)) | (with_reducible refine below_then (by with_reducible assumption) ?_ ?_) | go_size))
  have K0 := Blk.at_ w 25 [.string nm, .int .i64 st, .slice A n c] (b := w.heap.size) rfl
  have HS := Lib.hid hs
  have hgs := goodM_st hg
  have h38 := hgs.1
  have hr8 : (roundsS st).size ≤ 8 := by rw [rounds_size st (by omega)]; exact h38.2
  have hf8 : f.size ≤ 8 := by rw [hf.2]; exact h38.2
  have HR := Lib.hid (leadL_row h38.1 h38.2 l)
  have H0 := h.up b0
  have hM : rowsL f l n = (leadL st l).map (timesS f) := by rw [rowsL_times hf, ← leadL_n hn]
  obtain ⟨M, hM1⟩ : ∃ u, u = (leadL st l).map (timesS f) := ⟨_, rfl⟩
  obtain ⟨L, hL1⟩ : ∃ u, u = leadL st l := ⟨_, rfl⟩
  have hLn : L.length = n := by rw [hL1, leadL_len]; exact hn
  have hMn : M.length = n := by rw [hM1, List.length_map, ← hL1]; exact hLn
  rw [← hM1] at hM ⊢
  rw [← hL1] at HR ⊢
  have HL1 := Lib.hid hL1
  have HM1 := Lib.hid hM
  have HLn := Lib.hid hLn
  have HMn := Lib.hid hMn
  have hn40 : n ≤ 40 := by omega
  clear hL1 hM1 hM hLn hMn hgs hg hf
  go_in
  go_wp2_with fail
  refine (spec_l11Lead hf8 hn H0 hz HS.out).mono ?_; rintro e w1 ⟨A1, c1, rfl, ho1, hb1⟩
  rw [HM1.out] at ho1
  have K1 := K0.up hb1
  have H1 := H0.up hb1
  have B1 := below_go b0 hb1
  clear K0 H0 h b0 hb1
  have k0 := K1.cell 0; have k1 := K1.cell 1; have k2 := K1.cell 2
  simp only [List.getElem?_cons_zero, List.getElem?_cons_succ] at k0 k1 k2
  go_upto_region 3 with fail
  go_region_held3 (fun u => u.cell? ⟨w.heap.size, 0, none⟩ = some (.string nm) ∧ u.cell? ⟨w.heap.size, 1, none⟩ = some (.int .i64 (st : Int)) ∧ u.cell? ⟨w.heap.size, 2, none⟩ = some (.slice A n c)) (first | exact ⟨k0d, k1d, k2d⟩ | exact ⟨k0, k1, k2⟩) (first | (go_at_call 90; refine (spec_l1Rounds h38.2).mono ?_; rintro e w' ⟨rfl, rfl⟩) | (go_at_call 109; refine (spec_l11Lead hr8 hn H1.drew hz HS.out).mono ?_; rintro e w2 ⟨A2, c2, rfl, ho2, hbd⟩; have hb2 := below_of_drew hbd; have K2 := K1.up hb2; have k0d := K2.cell 0; have k1d := K2.cell 1; have k2d := K2.cell 2; simp only [List.getElem?_cons_zero, List.getElem?_cons_succ] at k0d k1d k2d))
  rw [← leadL_n hn, ← HL1.out] at ho2
  have B2 := below_go B1 hb2
  have R1 := Lib.hid (ho1.recs.up hb2)
  have R2 := Lib.hid ho2.recs
  clear K1 H1 ho1 ho2 hbd hb2 k0 k1 k2
  go_wp2
  go_loopw [6, 18] (fun v i wr => ∃ (k m : Nat) (A' : Option Addr) (c' : Nat), k ≤ n ∧ i = .int .i64 k ∧ v = .slice A' m c' ∧ m ≤ k ∧ Hid (Owned strE 1 9 wr w2.heap.size A' m c' (meetL (L.take k) M)) ∧ Below w2.heap.size w2 wr) (fun _ i _ => n - (intOf i).toNat)
  case atStart => exact ⟨0, 0, none, 0, Nat.zero_le _, rfl, rfl, Nat.le_refl _, Lib.hid (Owned.nil strE_len _ _ _), Below.refl _ _⟩
  case round =>
    obtain ⟨k, m, A3, c3, hk, rfl, rfl, hmk, HO, hb⟩ := hrel
    rename World => wr
    have hszr := hb.size
    by_cases hlt : k < n
    · obtain ⟨b1, o1, x, rfl, _, hx, hcx⟩ := (R2.out.below hb (Nat.le_refl _)).at_str (k := k) (by rw [HLn.out]; exact hlt)
      have hxz : x.size ≤ 8 := by have h1 := (HR.out x (List.mem_of_getElem? hx)).2; omega
      have HMS := Lib.hid (meetL_succ (M := M) hx)
      have R1' := R1.out.below hb (Nat.le_refl _)
      clear hx
      go_wp2_with fail
      refine (spec_l1HasS HMn.out R1' (by omega)).mono ?_; rintro e w' ⟨rfl, rfl⟩
      rcases hin : inL M x
      · have e1 := Lib.hid (show meetL (L.take (k + 1)) M = meetL (L.take k) M by rw [HMS.out, hin]; simp)
        go_wp2
        go_roundw
        case rel => exact ⟨k + 1, m, A3, c3, by omega, by go_num, rfl, by omega, by rw [e1.out]; exact HO, hb⟩
        case measure => simp [intOf]; omega
      · have e1 := Lib.hid (show meetL (L.take (k + 1)) M = meetL (L.take k) M ++ [x] by rw [HMS.out, hin]; simp)
        go_wp2_with (first | (at_builtin; go_must ((refine wpList_append_recs Tryz.elStr strE_one rfl (.tmp 25) (.tmp 27) rfl rfl (HO.out.alloc _) rfl (own_lit1_at' strE_len _ 9 x rfl (Nat.le_refl _)).recs rfl ?_ (by decide) ?_ ?_; (focus (first | omega | (simp only [World.size_alloc]; done) | (simp only [World.size_alloc]; omega) | (simp; done) | (simp; omega))); (focus (first | omega | (simp only [World.size_alloc]; done) | (simp only [World.size_alloc]; omega) | (simp; done) | (simp; omega))); intro A4 c4 w6 ho6 hg6 hl6; have hb6 : Below w2.heap.size w2 w6 := (hb.alloc hszr _).trans (grown_base hg6 (by simp; omega) (fun z hz => (HO.out.range z hz).1))))))
        go_roundw
        case rel => exact ⟨k + 1, m + 1, A4, c4, by omega, by go_num, rfl, by omega, by rw [e1.out]; exact Lib.hid ho6, hb6⟩
        case measure => simp [intOf]; omega
    · obtain rfl : k = n := by omega
      have e1 := Lib.hid (show meetL (L.take k) M = meetL L M by rw [List.take_of_length_le (by rw [HLn.out]; omega)])
      go_wp2
      go_ret
      refine ⟨_, _, _, rfl, by rw [← e1.out]; exact HO.out.base_le B2.size, by omega, below_go B2 hb⟩
set_option maxHeartbeats 1000000 in
set_option maxRecDepth 100000 in
theorem spec_l11Asked {A : Option Addr} {n c st : Nat} {nm : ByteArray} {l : List ByteArray} {f : ByteArray} {w : World} (hn : l.length = n) (h : Strs w A l) (hz : n ≤ 1048576) (hs : ∀ s ∈ l, s.size ≤ 16777216) (hnm : nm.size ≤ 16777216) (h9 : st ≤ 1000) (hf : f.size ≤ 16777216) :
    Calls Tryz.prog 101 #[.agg #[.string nm, .int .i64 st, .slice A n c], .string f] w fun e w' => e = .returned (.bool (fhOk nm st l f)) ∧ Below w.heap.size w w' := by
  have b0 : Below w.heap.size w (w.alloc (.cells ⟨[.string nm, .int .i64 st, .slice A n c]⟩ 25)) := by (repeat' (first | (with_reducible exact Below.refl _ _) | (with_reducible assumption) | (with_reducible refine below_drewN ?_ _) | (with_reducible refine Below.drew ?_) | (with_reducible refine below_alloc ?_ _) | (with_reducible refine Below.alloc ?_ ?_ _) | (with_reducible refine Below.setCell ?_ ?_ _) | (with_reducible refine below_go ?_ (by with_reducible assumption)) | (with_reducible refine below_then (by with_reducible assumption) ?_ ?_) | go_size))
  have K0 := Blk.at_ w 25 [.string nm, .int .i64 st, .slice A n c] (b := w.heap.size) rfl
  have HQ : Hid (fhOk nm st l f = (goodM nm (st : Int) l && (goodRow f && (f.size == st)))) := Lib.hid rfl
  have hI : I64 (st : Int) := ⟨by omega, by omega⟩
  have H0 := h.up b0
  go_in
  go_wp2_with fail
  refine (spec_l4Good hn H0 hz hs hnm hI).mono ?_; rintro e w1 ⟨rfl, hb1⟩
  have K1 := K0.up hb1
  have B1 := below_go b0 hb1
  clear K0 H0 h b0 hb1
  rcases hg : goodM nm (st : Int) l
  · have e1 := Lib.hid (show fhOk nm st l f = false by rw [HQ.out, hg]; rfl)
    go_wp2
    go_ret
    rw [e1.out]
    exact ⟨rfl, B1⟩
  · go_wp2_with fail
    refine (spec_l1Row hf).mono ?_; rintro e w2 ⟨rfl, hb2⟩
    have K2 := K1.up hb2
    have B2 := below_go B1 hb2
    have k1 := K2.cell 1
    simp only [List.getElem?_cons_zero, List.getElem?_cons_succ] at k1
    clear K1 hb2
    rcases hr : goodRow f
    · have e1 := Lib.hid (show fhOk nm st l f = false by rw [HQ.out, hg, hr]; rfl)
      go_wp2
      go_ret
      rw [e1.out]
      exact ⟨rfl, B2⟩
    · have e1 := Lib.hid (show fhOk nm st l f = ((f.size : Int) == (st : Int)) by rw [HQ.out, hg, hr, Bool.true_and, Bool.true_and, Bool.eq_iff_iff, beq_iff_eq, beq_iff_eq]; omega)
      go_wp2
      go_ret
      rw [e1.out]
      exact ⟨rfl, B2⟩
set_option maxHeartbeats 1000000 in
theorem spec_IsFalseHead {A : Option Addr} {n c st : Nat} {nm : ByteArray} {l : List ByteArray} {f : ByteArray} {w : World} (hn : l.length = n) (h : Strs w A l) (hz : n ≤ 1048576) (hs : ∀ s ∈ l, s.size ≤ 16777216) (hnm : nm.size ≤ 16777216) (h9 : st ≤ 1000) (hf : f.size ≤ 16777216) :
    Calls Tryz.prog 23 #[.agg #[.string nm, .int .i64 st, .slice A n c], .string f] w fun e w' => e = .returned (.tuple #[.bool (fhV nm st l f), .bool (fhOk nm st l f)]) ∧ Below w.heap.size w w' := by
  have b0 : Below w.heap.size w (w.alloc (.cells ⟨[.string nm, .int .i64 st, .slice A n c]⟩ 25)) := by (repeat' (first | (with_reducible exact Below.refl _ _) | (with_reducible assumption) | (with_reducible refine below_drewN ?_ _) | (with_reducible refine Below.drew ?_) | (with_reducible refine below_alloc ?_ _) | (with_reducible refine Below.alloc ?_ ?_ _) | (with_reducible refine Below.setCell ?_ ?_ _) | (with_reducible refine below_go ?_ (by with_reducible assumption)) | (with_reducible refine below_then (by with_reducible assumption) ?_ ?_) | go_size))
  have K0 := Blk.at_ w 25 [.string nm, .int .i64 st, .slice A n c] (b := w.heap.size) rfl
  have H0 := h.up b0
  have HQ : Hid (fhV nm st l f = (fhOk nm st l f && inL (falL (leadL st l)) f)) := Lib.hid rfl
  go_in
  go_wp2_with fail
  refine (spec_l11Asked (nm := nm) (st := st) hn H0 hz hs hnm h9 hf).mono ?_; rintro e w1 ⟨rfl, hb1⟩
  have K1 := K0.up hb1
  have H1 := H0.up hb1
  have B1 := below_go b0 hb1
  clear K0 H0 h b0 hb1
  rcases hg : fhOk nm st l f
  · have e1 := Lib.hid (show fhV nm st l f = false by rw [HQ.out, hg]; rfl)
    go_wp2
    go_ret2
    rw [e1.out, hg]
    exact ⟨rfl, B1⟩
  · have k0 := K1.cell 0; have k1 := K1.cell 1; have k2 := K1.cell 2
    simp only [List.getElem?_cons_zero, List.getElem?_cons_succ] at k0 k1 k2
    have ht := fhOk_t hg
    have HV := Lib.hid (fhV_sh hg)
    have HSH := Lib.hid (show shV nm st l f = meetL (leadL st l) ((leadL st l).map (timesS f)) by rw [shV, if_pos hg])
    go_wp2_with fail
    refine (spec_l11Shared hn H1 hz hs hnm h9 ht.1 ht.2.1).mono ?_; rintro e w2 ⟨A2, m, c2, rfl, ho, hm, hb2⟩
    rw [← HSH.out] at ho
    have e1 := Lib.hid (show fhV nm st l f = decide (0 < m) by rw [HV.out, ho.len])
    go_wp2
    go_ret2
    rw [e1.out, hg]
    exact ⟨rfl, below_go B1 hb2⟩
set_option maxHeartbeats 1000000 in
theorem spec_SharedRows {A : Option Addr} {n c st : Nat} {nm : ByteArray} {l : List ByteArray} {f : ByteArray} {w : World} (hn : l.length = n) (h : Strs w A l) (hz : n ≤ 1048576) (hs : ∀ s ∈ l, s.size ≤ 16777216) (hnm : nm.size ≤ 16777216) (h9 : st ≤ 1000) (hf : f.size ≤ 16777216) :
    Calls Tryz.prog 25 #[.agg #[.string nm, .int .i64 st, .slice A n c], .string f] w fun e w' => ∃ A' m c', e = .returned (.tuple #[.slice A' m c', .bool (fhOk nm st l f)]) ∧ Owned strE 1 9 w' w.heap.size A' m c' (shV nm st l f) ∧ m ≤ 40 ∧ Below w.heap.size w w' := by
  have b0 : Below w.heap.size w (w.alloc (.cells ⟨[.string nm, .int .i64 st, .slice A n c]⟩ 25)) := by (repeat' (first | (with_reducible exact Below.refl _ _) | (with_reducible assumption) | (with_reducible refine below_drewN ?_ _) | (with_reducible refine Below.drew ?_) | (with_reducible refine below_alloc ?_ _) | (with_reducible refine Below.alloc ?_ ?_ _) | (with_reducible refine Below.setCell ?_ ?_ _) | (with_reducible refine below_go ?_ (by with_reducible assumption)) | (with_reducible refine below_then (by with_reducible assumption) ?_ ?_) | go_size))
  have K0 := Blk.at_ w 25 [.string nm, .int .i64 st, .slice A n c] (b := w.heap.size) rfl
  have H0 := h.up b0
  go_in
  go_wp2_with fail
  refine (spec_l11Asked (nm := nm) (st := st) hn H0 hz hs hnm h9 hf).mono ?_; rintro e w1 ⟨rfl, hb1⟩
  have K1 := K0.up hb1
  have H1 := H0.up hb1
  have B1 := below_go b0 hb1
  clear K0 H0 h b0 hb1
  rcases hg : fhOk nm st l f
  · have e1 := Lib.hid (show shV nm st l f = [] by rw [shV, if_neg (by rw [hg]; simp)])
    go_wp2
    go_ret2
    rw [e1.out, hg]
    exact ⟨none, 0, 0, rfl, Owned.nil strE_len _ _ _, by omega, B1⟩
  · have k0 := K1.cell 0; have k1 := K1.cell 1; have k2 := K1.cell 2
    simp only [List.getElem?_cons_zero, List.getElem?_cons_succ] at k0 k1 k2
    have ht := fhOk_t hg
    have HSH := Lib.hid (show shV nm st l f = meetL (leadL st l) ((leadL st l).map (timesS f)) by rw [shV, if_pos hg])
    go_wp2_with fail
    refine (spec_l11Shared hn H1 hz hs hnm h9 ht.1 ht.2.1).mono ?_; rintro e w2 ⟨A2, m, c2, rfl, ho, hm, hb2⟩
    go_wp2
    go_ret2
    rw [HSH.out, hg]
    exact ⟨_, _, _, rfl, ho.base_le B1.size, hm, below_go B1 hb2⟩
set_option maxHeartbeats 2000000 in
set_option maxRecDepth 100000 in
theorem spec_l11Heads {A : Option Addr} {n c st : Nat} {nm : ByteArray} {l : List ByteArray} {w : World} (hn : l.length = n) (h : Strs w A l) (hz : n ≤ 1048576) (hs : ∀ s ∈ l, s.size ≤ 16777216) (hnm : nm.size ≤ 16777216) (h9 : st ≤ 1000) (hg : goodM nm (st : Int) l = true) :
    Calls Tryz.prog 96 #[.agg #[.string nm, .int .i64 st, .slice A n c]] w fun e w' => ∃ A' m c', e = .returned (.slice A' m c') ∧ Owned strE 1 9 w' w.heap.size A' m c' (falS (leadL st l)) ∧ m ≤ 1600 ∧ Below w.heap.size w w' := by
  have b0 : Below w.heap.size w (w.alloc (.cells ⟨[.string nm, .int .i64 st, .slice A n c]⟩ 25)) := by (repeat' (first | (with_reducible exact Below.refl _ _) | (with_reducible assumption) | (with_reducible refine below_drewN ?_ _) | (with_reducible refine Below.drew ?_) | (with_reducible refine below_alloc ?_ _) | (with_reducible refine Below.alloc ?_ ?_ _) | (with_reducible refine Below.setCell ?_ ?_ _) | (with_reducible refine below_go ?_ (by with_reducible assumption)) | (with_reducible refine below_then (by with_reducible assumption) ?_ ?_) | go_size))
  have K0 := Blk.at_ w 25 [.string nm, .int .i64 st, .slice A n c] (b := w.heap.size) rfl
  have HS := Lib.hid hs
  have hgs := goodM_st hg
  have h38 := hgs.1
  have hr8 : (roundsS st).size ≤ 8 := by rw [rounds_size st (by omega)]; exact h38.2
  have HR := Lib.hid (leadL_row h38.1 h38.2 l)
  have HFR := Lib.hid (falL_row HR.out)
  have H0 := h.up b0
  obtain ⟨L, hL1⟩ : ∃ u, u = leadL st l := ⟨_, rfl⟩
  have hLn : L.length = n := by rw [hL1, leadL_len]; exact hn
  rw [← hL1] at HR HFR ⊢
  have HL1 := Lib.hid hL1
  have HLn := Lib.hid hLn
  have hn40 : n ≤ 40 := by omega
  have k0 := K0.cell 0; have k1 := K0.cell 1; have k2 := K0.cell 2
  simp only [List.getElem?_cons_zero, List.getElem?_cons_succ] at k0 k1 k2
  clear hL1 hLn hgs hg
  go_in
  go_upto_region 1 with fail
  obtain ⟨w0, hw0⟩ : ∃ u, u = (w.alloc (.cells #[.string nm, .int .i64 st, .slice A n c] 25)) := ⟨_, rfl⟩
  rw [← hw0] at b0 K0 H0 k0 k1 k2 ⊢
  clear hw0
  refine wp_region_still_tail 4 (by kernel_rfl) (by kernel_rfl) ?_
  simp only [List.take_succ_cons, List.take_zero, List.drop_succ_cons, List.drop_zero]
  repeat still_step
  still_call (turnC (spec_l1Rounds h38.2))
  repeat still_step
  refine wpStill_nil ?_
  change wpList _ _ _ _ _ w0.drew
  go_wp2_with fail
  refine (spec_l11Lead hr8 hn H0.drew hz HS.out).mono ?_; rintro e w2 ⟨A2, c2, rfl, ho2, hbd⟩
  have hb2 := below_of_drew hbd
  rw [← leadL_n hn, ← HL1.out] at ho2
  have B2 := below_go b0 hb2
  have R2 := Lib.hid ho2.recs
  clear K0 H0 ho2 hbd hb2 k0 k1 k2 h b0
  go_wp2
  go_loopw [4, 19] (fun v i wr => ∃ (k m : Nat) (A' : Option Addr) (c' : Nat), k ≤ n ∧ i = .int .i64 k ∧ v = .slice A' m c' ∧ Hid (m = k * n) ∧ Hid (Owned strE 1 9 wr w2.heap.size A' m c' (falTo L k)) ∧ Below w2.heap.size w2 wr) (fun _ i _ => n - (intOf i).toNat)
  case atStart => exact ⟨0, 0, none, 0, Nat.zero_le _, rfl, rfl, Lib.hid (Nat.zero_mul _).symm, Lib.hid (by rw [falTo_zero]; exact Owned.nil strE_len _ _ _), Below.refl _ _⟩
  case round =>
    obtain ⟨k, m, A3, c3, hk, rfl, rfl, HM, HO, hb⟩ := hrel
    rename World => wo
    have hszo := hb.size
    by_cases hlt : k < n
    · obtain ⟨b1, o1, x, rfl, _, hx, hcx⟩ := (R2.out.below hb (Nat.le_refl _)).at_str (k := k) (by rw [HLn.out]; exact hlt)
      have hxN := Lib.hid (HR.out x (List.mem_of_getElem? hx))
      have HTS := Lib.hid (falTo_succ hx)
      have hI : (k : Int) < (n : Int) := by omega
      clear hx
      go_wp2
      go_loopw [4, 25] (fun v i wr => ∃ (j q : Nat) (A' : Option Addr) (c' : Nat), j ≤ n ∧ i = .int .i64 j ∧ v = .slice A' q c' ∧ Hid (q = k * n + j) ∧ Hid (Owned strE 1 9 wr w2.heap.size A' q c' (falTo L k ++ prodL x L j)) ∧ Below w2.heap.size w2 wr) (fun _ i _ => n - (intOf i).toNat)
      case atStart => exact ⟨0, m, A3, c3, Nat.zero_le _, rfl, rfl, HM, Lib.hid (by rw [prodL_zero, List.append_nil]; exact HO.out), hb⟩
      case round =>
        obtain ⟨j, q, A4, c4, hj, rfl, rfl, HMQ, HOQ, hbq⟩ := hrel
        rename World => wq
        have hszq := hbq.size
        by_cases hjt : j < n
        · obtain ⟨b2, o2, y, hA2, _, hy, hcy⟩ := (R2.out.below hbq (Nat.le_refl _)).at_str (k := j) (by rw [HLn.out]; exact hjt)
          injection hA2 with hA2
          injection hA2 with e1 e2 _
          subst e1 e2
          have hyN := HR.out y (List.mem_of_getElem? hy)
          have HPS := Lib.hid (prodL_succ (r := x) hy)
          have hqb : q ≤ 1640 := by
            have h1 := HMQ.out
            have h2 : k * n ≤ 40 * 40 := Nat.mul_le_mul (by omega) hn40
            omega
          have hty := turn_rowN hyN
          have hft := rowN_fits hxN.out hty
          have hxs : x.size ≤ 16777216 := by have := hxN.out.2; omega
          have hts : (turnS y).size ≤ 16777216 := by have := hty.2; omega
          have HYG := Lib.hid hyN.1
          clear hy hyN hty
          go_wp2_with fail
          refine (spec_l1Turn HYG.out).mono ?_; rintro e w5 ⟨rfl, hb5, _⟩
          have hbq5 := below_go hbq hb5
          have HO5 := Lib.hid (HOQ.out.up hb5)
          have hsz5 := hbq5.size
          go_wp2_with fail
          refine (spec_l1Times hxs hts hft).mono ?_; rintro e w' ⟨rfl, rfl⟩
          obtain ⟨z, hz⟩ : ∃ u, u = timesS x (turnS y) := ⟨_, rfl⟩
          rw [← hz] at HPS ⊢
          clear hz
          go_wp2_with (first | (at_builtin; go_must ((refine wpList_append_recs Tryz.elStr strE_one rfl (.tmp 29) (.tmp 34) rfl rfl (HO5.out.alloc _) rfl (own_lit1_at' strE_len _ 9 z rfl (Nat.le_refl _)).recs rfl ?_ (by decide) ?_ ?_; (focus (first | omega | (simp only [World.size_alloc]; done) | (simp only [World.size_alloc]; omega) | (simp; done) | (simp; omega))); (focus (first | omega | (simp only [World.size_alloc]; done) | (simp only [World.size_alloc]; omega) | (simp; done) | (simp; omega))); intro A6 c6 w6 ho6 hg6 hl6; have hb6 : Below w2.heap.size w2 w6 := (hbq5.alloc hsz5 _).trans (grown_base hg6 (by simp; omega) (fun z hz => (HO5.out.range z hz).1))))))
          go_roundw
          case rel => exact ⟨j + 1, q + 1, A6, c6, by omega, by go_num, rfl, Lib.hid (by have := HMQ.out; omega), Lib.hid (by rw [HPS.out, ← List.append_assoc]; exact ho6), hb6⟩
          case measure => simp [intOf]; omega
        · obtain rfl : j = n := by omega
          have hJ : ¬ (j : Int) < (j : Int) := by omega
          go_wp2
          go_roundw
          case rel => exact ⟨k + 1, q, A4, c4, by omega, by go_num, rfl, Lib.hid (by have := HMQ.out; rw [Nat.succ_mul]; exact this), Lib.hid (by have h1 := HOQ.out; rw [HTS.out, HLn.out]; exact h1), hbq⟩
          case measure => simp [intOf]; omega
    · obtain rfl : k = n := by omega
      have hI : ¬ (k : Int) < (k : Int) := by omega
      have HALL := Lib.hid (show falTo L k = falL L by rw [← HLn.out, falTo_all])
      have HO2 : Hid (Owned strE 1 9 wo w2.heap.size A3 m c3 (falL L)) := Lib.hid (by rw [← HALL.out]; exact HO.out)
      have hmb : m ≤ 1600 := by
        have h1 := HM.out
        have h2 : k * k ≤ 40 * 40 := Nat.mul_le_mul hn40 hn40
        omega
      have HML := Lib.hid HO2.out.len
      clear HO HALL HM
      go_wp2_with fail
      refine (spec_l6Sort m A3 c3 (falL L) wo HML.out HO2.out.recs (by omega) (fun s hs => by have h1 := (HFR.out s hs).2; omega)).mono ?_; rintro e w7 ⟨A7, c7, T, rfl, ho7, hp7, hs7, hb7⟩
      have HTS : Hid (falS L = uniqF T) := Lib.hid (by rw [falS, srt_unique (List.pairwise_mergeSort leS_trans leS_total _) hs7 ((List.mergeSort_perm _ leS).trans hp7.symm)])
      have B7 := below_go (below_go B2 hb) hb7
      have R7 := Lib.hid ho7.recs
      have HTL := Lib.hid ho7.len
      have HTZ : Hid (∀ s ∈ T, s.size ≤ 8) := Lib.hid (fun s hs => by have h1 := (HFR.out s (hp7.mem_iff.1 hs)).2; omega)
      have HUL := Lib.hid (uniqF_len T)
      clear ho7 hp7 hs7 hb7 HO2 HML HFR
      go_wp2
      go_loopw [9, 41] (fun v i wr => ∃ (j q : Nat) (A' : Option Addr) (c' : Nat), j ≤ m ∧ i = .int .i64 j ∧ v = .slice A' q c' ∧ q ≤ j ∧ Hid (Owned strE 1 9 wr w7.heap.size A' q c' (uniqF (T.take j))) ∧ Below w7.heap.size w7 wr) (fun _ i _ => m - (intOf i).toNat)
      case atStart => exact ⟨0, 0, none, 0, Nat.zero_le _, rfl, rfl, Nat.le_refl _, Lib.hid (Owned.nil strE_len _ _ _), Below.refl _ _⟩
      case round =>
        obtain ⟨j, q, A8, c8, hj, rfl, rfl, hqj, HO, hb8⟩ := hrel
        rename World => wr
        have hszr := hb8.size
        have HOL := Lib.hid HO.out.len
        by_cases hjt : j < m
        · have hJ : (j : Int) < (m : Int) := by omega
          obtain ⟨b2, o2, y, rfl, _, hy, hcy⟩ := (R7.out.below hb8 (Nat.le_refl _)).at_str (k := j) (by rw [HTL.out]; exact hjt)
          have HUS := Lib.hid (uniqF_step hy)
          have hyz : y.size ≤ 8 := HTZ.out y (List.mem_of_getElem? hy)
          clear hy
          by_cases hq0 : q = 0
          · subst hq0
            have e1 := Lib.hid (show uniqF (T.take (j + 1)) = uniqF (T.take j) ++ [y] by
              have h1 := List.eq_nil_of_length_eq_zero HOL.out
              rw [HUS.out, uniqStep, h1]; simp)
            go_wp2_with (first | (at_builtin; go_must ((refine wpList_append_recs Tryz.elStr strE_one rfl (.tmp 58) (.tmp 60) rfl rfl (HO.out.alloc _) rfl (own_lit1_at' strE_len _ 9 y rfl (Nat.le_refl _)).recs rfl ?_ (by decide) ?_ ?_; (focus (first | omega | (simp only [World.size_alloc]; done) | (simp only [World.size_alloc]; omega) | (simp; done) | (simp; omega))); (focus (first | omega | (simp only [World.size_alloc]; done) | (simp only [World.size_alloc]; omega) | (simp; done) | (simp; omega))); intro A6 c6 w6 ho6 hg6 hl6; have hb6 : Below w7.heap.size w7 w6 := (hb8.alloc hszr _).trans (grown_base hg6 (by simp; omega) (fun z hz => (HO.out.range z hz).1))))))
            go_roundw
            case rel => exact ⟨j + 1, 0 + 1, A6, c6, by omega, by go_num, rfl, by omega, Lib.hid (by rw [e1.out]; exact ho6), hb6⟩
            case measure => simp [intOf]; omega
          · obtain ⟨g, rfl, g0, g1, gc, _⟩ := HO.out.at_ (by omega)
            obtain ⟨v, hv⟩ := some_of_lt (l := uniqF (T.take j)) (k := q - 1) (by rw [HOL.out]; omega)
            have cv := gc (q - 1) v 0 _ hv rfl
            simp only [Nat.mul_one, Nat.add_zero] at cv
            have hlast : (uniqF (T.take j)).getLast? = some v := by
              rw [List.getLast?_eq_getElem?, HOL.out]; exact hv
            have HLAST := Lib.hid hlast
            have hJq : ((q : Int) == 0) = false := by simp; omega
            have hJ2 : IntKind.i64.wrap ((q : Int) - 1) = ((q - 1 : Nat) : Int) := by rw [wrap_id (by omega)]; omega
            have hJ3 : (q : Int) - 1 = ((q - 1 : Nat) : Int) := by omega
            have hJ4 : ((q - 1 : Nat) : Int) < (q : Int) := by omega
            clear gc hv hlast
            by_cases hvy : v = y
            · have e1 := Lib.hid (show uniqF (T.take (j + 1)) = uniqF (T.take j) by rw [HUS.out, uniqStep, if_pos (by rw [HLAST.out, hvy])])
              have hbe : (v.toList == y.toList) = true := by rw [hvy]; simp
              clear hvy
              go_wp2
              go_roundw
              case rel => exact ⟨j + 1, q, some ⟨g, 0, none⟩, c8, by omega, by go_num, rfl, by omega, Lib.hid (by rw [e1.out]; exact HO.out), hb8⟩
              case measure => simp [intOf]; omega
            · have e1 := Lib.hid (show uniqF (T.take (j + 1)) = uniqF (T.take j) ++ [y] by rw [HUS.out, uniqStep, if_neg (by rw [HLAST.out]; intro e; injection e with e; exact hvy e)])
              have hbe := bytes_ne hvy
              clear hvy
              go_wp2_with (first | (at_builtin; go_must ((refine wpList_append_recs Tryz.elStr strE_one rfl (.tmp 58) (.tmp 60) rfl rfl (HO.out.alloc _) rfl (own_lit1_at' strE_len _ 9 y rfl (Nat.le_refl _)).recs rfl ?_ (by decide) ?_ ?_; (focus (first | omega | (simp only [World.size_alloc]; done) | (simp only [World.size_alloc]; omega) | (simp; done) | (simp; omega))); (focus (first | omega | (simp only [World.size_alloc]; done) | (simp only [World.size_alloc]; omega) | (simp; done) | (simp; omega))); intro A6 c6 w6 ho6 hg6 hl6; have hb6 : Below w7.heap.size w7 w6 := (hb8.alloc hszr _).trans (grown_base hg6 (by simp; omega) (fun z hz => (HO.out.range z hz).1))))))
              go_roundw
              case rel => exact ⟨j + 1, q + 1, A6, c6, by omega, by go_num, rfl, by omega, Lib.hid (by rw [e1.out]; exact ho6), hb6⟩
              case measure => simp [intOf]; omega
        · obtain rfl : j = m := by omega
          have hJ : ¬ (j : Int) < (j : Int) := by omega
          have e1 := Lib.hid (show uniqF (T.take j) = falS L by rw [HTS.out, List.take_of_length_le (by rw [HTL.out]; omega)])
          go_wp2
          go_ret
          exact ⟨_, _, _, rfl, by rw [← e1.out]; exact HO.out.base_le B7.size, by omega, below_go B7 hb8⟩
set_option maxHeartbeats 1000000 in
theorem spec_FalseHeads {A : Option Addr} {n c st : Nat} {nm : ByteArray} {l : List ByteArray} {w : World} (hn : l.length = n) (h : Strs w A l) (hz : n ≤ 1048576) (hs : ∀ s ∈ l, s.size ≤ 16777216) (hnm : nm.size ≤ 16777216) (h9 : st ≤ 1000) :
    Calls Tryz.prog 27 #[.agg #[.string nm, .int .i64 st, .slice A n c]] w fun e w' => ∃ A' m c', e = .returned (.tuple #[.slice A' m c', .bool (fhsOk nm st l)]) ∧ Owned strE 1 9 w' w.heap.size A' m c' (fhsV nm st l) ∧ m ≤ 800 ∧ Below w.heap.size w w' := by
  have b0 : Below w.heap.size w (w.alloc (.cells ⟨[.string nm, .int .i64 st, .slice A n c]⟩ 25)) := by (repeat' (first | (with_reducible exact Below.refl _ _) | (with_reducible assumption) | (with_reducible refine below_drewN ?_ _) | (with_reducible refine Below.drew ?_) | (with_reducible refine below_alloc ?_ _) | (with_reducible refine Below.alloc ?_ ?_ _) | (with_reducible refine Below.setCell ?_ ?_ _) | (with_reducible refine below_go ?_ (by with_reducible assumption)) | (with_reducible refine below_then (by with_reducible assumption) ?_ ?_) | go_size))
  have K0 := Blk.at_ w 25 [.string nm, .int .i64 st, .slice A n c] (b := w.heap.size) rfl
  have H0 := h.up b0
  have hI : I64 (st : Int) := ⟨by omega, by omega⟩
  have HQ : Hid (fhsOk nm st l = (goodM nm (st : Int) l && decide ((falS (leadL st l)).length ≤ 800))) := Lib.hid rfl
  have HF : Hid (fhsOk nm st l = false → fhsV nm st l = []) := Lib.hid (fun e => by rw [fhsV, if_neg (by rw [e]; simp)])
  have HT : Hid (fhsOk nm st l = true → fhsV nm st l = falS (leadL st l)) := Lib.hid (fun e => by rw [fhsV, if_pos e])
  go_in
  go_wp2_with fail
  refine (spec_l4Good hn H0 hz hs hnm hI).mono ?_; rintro e w1 ⟨rfl, hb1⟩
  have K1 := K0.up hb1
  have H1 := H0.up hb1
  have B1 := below_go b0 hb1
  clear K0 H0 h b0 hb1
  rcases hg : goodM nm (st : Int) l
  · have e1 := Lib.hid (show fhsOk nm st l = false by rw [HQ.out, hg]; rfl)
    go_wp2
    go_ret2
    rw [HF.out e1.out, e1.out]
    exact ⟨none, 0, 0, rfl, Owned.nil strE_len _ _ _, by omega, B1⟩
  · have k0 := K1.cell 0; have k1 := K1.cell 1; have k2 := K1.cell 2
    simp only [List.getElem?_cons_zero, List.getElem?_cons_succ] at k0 k1 k2
    go_wp2_with fail
    refine (spec_l11Heads hn H1 hz hs hnm h9 hg).mono ?_; rintro e w2 ⟨A2, m, c2, rfl, ho, hm, hb2⟩
    have e0 := Lib.hid ho.len
    by_cases hm8 : m ≤ 800
    · have e1 := Lib.hid (show fhsOk nm st l = true by rw [HQ.out, hg, e0.out, decide_eq_true hm8]; rfl)
      have hI8 : ¬ (800 : Int) < (m : Int) := by omega
      go_wp2
      go_ret2
      rw [HT.out e1.out, e1.out]
      exact ⟨_, _, _, rfl, ho.base_le B1.size, hm8, below_go B1 hb2⟩
    · have e1 := Lib.hid (show fhsOk nm st l = false by rw [HQ.out, hg, e0.out, decide_eq_false hm8]; rfl)
      have hI8 : (800 : Int) < (m : Int) := by omega
      go_wp2
      go_ret2
      rw [HF.out e1.out, e1.out]
      exact ⟨none, 0, 0, rfl, Owned.nil strE_len _ _ _, by omega, below_go B1 hb2⟩
end Go.Proofs.YtidolgonmimicaaGreat
/- The walks through lead heads of calls and their signs, the reference's side. -/
namespace Go.Proofs.YtidolgonmimicaaGreat
set_option linter.unusedVariables false
set_option linter.unusedSimpArgs false
open Go.ChangeShapes Go.WideShapes Go.ChangeAt Go.RowKit Go.Deep
set_option maxHeartbeats 1000000 in
theorem spec_l8Change {A : Option Addr} {n c : Nat} {st : Int} {nm : ByteArray} {l : List ByteArray} {kb ks s : ByteArray} {w : World} (hn : l.length = n) (h : Strs w A l) (h0 : 0 < n) (hz : n ≤ 1048576) :
    Calls Tryz.prog 231 #[.agg #[.string nm, .int .i64 st, .slice A n c], .agg #[.string kb, .string ks], .string s] w fun e w' => e = .returned (.string (chOf l kb ks s)) ∧ Below w.heap.size w w' := by
  obtain ⟨m, rfl⟩ : ∃ m, n = m + 1 := ⟨n - 1, by omega⟩
  have HN := Lib.hid hn
  clear hn
  have b0 : Below w.heap.size w ((w.alloc (.cells ⟨[.string nm, .int .i64 st, .slice A (m + 1) c]⟩ 25)).alloc (.cells ⟨[.string kb, .string ks]⟩ 27)) := by (repeat' (first | (with_reducible exact Below.refl _ _) | (with_reducible assumption) | (with_reducible refine below_drewN ?_ _) | (with_reducible refine Below.drew ?_) | (with_reducible refine below_alloc ?_ _) | (with_reducible refine Below.alloc ?_ ?_ _) | (with_reducible refine Below.setCell ?_ ?_ _) | (with_reducible refine below_go ?_ (by with_reducible assumption)) | (with_reducible refine below_then (by with_reducible assumption) ?_ ?_) | go_size))
  obtain ⟨b, o, y, rfl, hbb, hy, hc⟩ := h.at_str (k := m) (by rw [HN.out]; omega)
  have hc1 := (b0.cell (p := ⟨b, o + m, none⟩) hbb).trans hc
  have hne : ¬ b = w.heap.size := by omega
  have hne2 : ¬ b = w.heap.size + 1 := by omega
  have EY := Lib.hid (show lastC l = y by rw [lastC, HN.out, Nat.add_sub_cancel, List.getD, hy]; rfl)
  clear hy
  rcases hB : isB s
  · rcases hS : isS s
    · have g2 : (s.toList == [98]) = false := hB
      have g3 : (s.toList == [115]) = false := hS
      have e1 := Lib.hid (show chOf l kb ks s = y by rw [chOf, hB, hS, if_neg (by simp), if_neg (by simp), EY.out])
      clear hB hS hc1
      go_in
      go_wp2
      go_ret
      rw [e1.out]
      exact ⟨rfl, b0⟩
    · have g2 : (s.toList == [98]) = false := hB
      have g3 : (s.toList == [115]) = true := hS
      have e1 := Lib.hid (show chOf l kb ks s = ks by rw [chOf, hB, hS, if_neg (by simp), if_pos rfl])
      clear hB hS hc1
      go_in
      go_wp2
      go_ret
      rw [e1.out]
      exact ⟨rfl, b0⟩
  · have g2 : (s.toList == [98]) = true := hB
    have e1 := Lib.hid (show chOf l kb ks s = kb by rw [chOf, hB, if_pos rfl])
    clear hB hc1
    go_in
    go_wp2
    go_ret
    rw [e1.out]
    exact ⟨rfl, b0⟩
set_option maxRecDepth 100000 in
set_option maxHeartbeats 1000000 in
theorem spec_l8Head {A : Option Addr} {n c st : Nat} {nm : ByteArray} {l : List ByteArray} {kb ks : ByteArray} {s : ByteArray} {w : World} (hn : l.length = n) (h : Strs w A l) (hk : goodK nm (st : Int) l kb ks = true) (hcap : n ≤ c) :
    Calls Tryz.prog 201 #[.agg #[.string nm, .int .i64 st, .slice A n c], .agg #[.string kb, .string ks], .string s] w fun e w' => e = .returned (.string (callHd st l kb ks s)) ∧ Below w.heap.size w w' := by
  obtain ⟨h8, h40, hgl, hgb, hgs⟩ := goodK_all hk
  obtain ⟨m, rfl⟩ : ∃ m, n = m + 1 := ⟨n - 1, by omega⟩
  have HN := Lib.hid hn
  have b0 : Below w.heap.size w ((w.alloc (.cells ⟨[.string nm, .int .i64 st, .slice A (m + 1) c]⟩ 25)).alloc (.cells ⟨[.string kb, .string ks]⟩ 27)) := by (repeat' (first | (with_reducible exact Below.refl _ _) | (with_reducible assumption) | (with_reducible refine below_drewN ?_ _) | (with_reducible refine Below.drew ?_) | (with_reducible refine below_alloc ?_ _) | (with_reducible refine Below.alloc ?_ ?_ _) | (with_reducible refine Below.setCell ?_ ?_ _) | (with_reducible refine below_go ?_ (by with_reducible assumption)) | (with_reducible refine below_then (by with_reducible assumption) ?_ ?_) | go_size))
  have K0 := (Blk.at_ w 25 [.string nm, .int .i64 st, .slice A (m + 1) c] (b := w.heap.size) rfl).alloc (.cells ⟨[.string kb, .string ks]⟩ 27)
  have K1 := Blk.at_ (w.alloc (.cells ⟨[.string nm, .int .i64 st, .slice A (m + 1) c]⟩ 25)) 27 [.string kb, .string ks] (b := w.heap.size + 1) (by simp)
  have HS := Lib.hid (fun (s' : ByteArray) (hs' : s' ∈ l.take m) => show s'.size ≤ 16777216 from by have := goodChange_small (hgl s' (List.mem_of_mem_take hs')); omega)
  have e1 := Lib.hid (show applyR (rAt (roundsS st) (l.take m) m) (chOf l kb ks s) = callHd st l kb ks s by
    have := headX_take (st := st) (l := l) (x := chOf l kb ks s)
    rw [HN.out, Nat.add_sub_cancel] at this
    exact this)
  have hm40 : m ≤ 40 := by have := HN.out; omega
  have hr8 : (roundsS st).size ≤ 8 := by rw [rounds_size st (by omega)]; exact h8.2
  have hx8 : (rAt (roundsS st) (l.take m) m).size ≤ 8 := by rw [rAt_size]; exact hr8
  have hch := goodChange_small (chOf_good hk s)
  have HT := Lib.hid (show (l.take m).length = m by rw [List.length_take, HN.out]; omega)
  obtain ⟨b, o, y, rfl, hbb, _, _⟩ := h.at_str (k := m) (by rw [HN.out]; omega)
  have hst8 := h8.2
  clear hgl hgb hgs h40 hn h8
  go_in
  go_upto_region 2 with fail
  obtain ⟨w0, hw0⟩ : ∃ u, u = ((w.alloc (.cells #[.string nm, .int .i64 st, .slice (some ⟨b, o, none⟩) (m + 1) c] 25)).alloc (.cells #[.string kb, .string ks] 27)) := ⟨_, rfl⟩
  rw [← hw0] at b0 K0 K1 ⊢
  clear hw0
  have H0 := h.up b0
  have R0 : Hid (Strs w0 (some ⟨b, o, none⟩) (l.take m)) := Lib.hid (by
    have := H0.part 0 m (Nat.zero_le _) (by rw [HN.out]; omega)
    simpa using this)
  have k0 := K0.cell 0; have k1 := K0.cell 1; have k2 := K0.cell 2; have q0 := K1.cell 0; have q1 := K1.cell 1
  simp only [List.getElem?_cons_zero, List.getElem?_cons_succ] at k0 k1 k2 q0 q1
  have hle : (m : Int) ≤ (c : Int) := by omega
  have hle2 : (0 : Int) ≤ (m : Int) := by omega
  have hnc : ¬ c = 0 := by omega
  have hB0 := Lib.hid b0
  go_region_held3 (fun u => u.cell? ⟨w.heap.size, 1, none⟩ = some (.int .i64 st) ∧ u.cell? ⟨w.heap.size, 2, none⟩ = some (.slice (some ⟨b, o, none⟩) (m + 1) c)) (first | exact ⟨k1d, k2d⟩ | exact ⟨k1, k2⟩) (first | (go_at_call 90; refine (spec_l1Rounds hst8).mono ?_; rintro e w' ⟨rfl, rfl⟩) | (go_at_call 192; refine (spec_l4Lead hr8 HT.out R0.out.drew (by omega) HS.out).mono ?_; rintro e w1 ⟨A1, c1, rfl, ho, hbd⟩; have hb1 := below_of_drew hbd; have L0 := K0.up hb1; have L1 := K1.up hb1; have k1d := L0.cell 1; have k2d := L0.cell 2; simp only [List.getElem?_cons_zero, List.getElem?_cons_succ] at k1d k2d))
  have k0d := L0.cell 0; have q0d := L1.cell 0; have q1d := L1.cell 1
  simp only [List.getElem?_cons_zero, List.getElem?_cons_succ] at k0d q0d q1d
  have hB1 := below_go b0 hb1
  clear k0 k1 k2 q0 q1
  go_wp2_with fail
  refine (spec_l8Change HN.out (h.up hB1) (by omega) (by omega)).mono ?_; rintro e w2 ⟨rfl, hb2⟩
  go_wp2_with fail
  refine (spec_l2Apply hx8 (by omega)).mono ?_; rw [e1.out]; rintro e w3 ⟨rfl, hb3⟩
  go_wp2
  go_ret
  exact ⟨rfl, below_go (below_go hB1 hb2) hb3⟩
end Go.Proofs.YtidolgonmimicaaGreat
/- A map to strings or to ints that the call has made, as a plain function of the key. -/
namespace Go.Proofs.YtidolgonmimicaaGreat
set_option linter.unusedVariables false
set_option linter.unusedSimpArgs false
open Go.ChangeShapes Go.WideShapes Go.ChangeAt Go.RowKit Go.Deep
open Go.Maps (Keyed)

/-- Block b is a map of at most n entries that reads as f. -/
def MapTo {α : Type} (en : α → Value) (li : α → Lit) (z : α) (P : Program) (w : World) (k e : TypeId) (b n : Nat) (f : Value → α) : Prop :=
  ∃ D : DataW Unit, w.ownsMap P k (plainElem P e) b n D ∧ ∀ key kl, keyOf P k key = some kl → D.atKey kl (.lit (li z)) = .lit (li (f key))
section
variable {α : Type} {en : α → Value} {li : α → Lit} {z : α} {P : Program} {w w' : World} {k e : TypeId} {b n : Nat} {f : Value → α}
theorem MapTo.made (en : α → Value) (li : α → Lit) (z : α) (P : Program) (w : World) (k e : TypeId) : MapTo en li z P (w.alloc (.map #[] 0)) k e w.heap.size 0 (fun _ => z) :=
  ⟨.map [], World.ownsMap_made w P k _, fun key kl _ => rfl⟩
theorem MapTo.lt (h : MapTo en li z P w k e b n f) : b < w.heap.size := by
  obtain ⟨D, h1, _⟩ := h
  exact h1.lt
theorem MapTo.kept {row : Option Nat} (h : MapTo en li z P w k e b n f) (hg : w.grownBy w' row) (hne : some b ≠ row) : MapTo en li z P w' k e b n f := by
  obtain ⟨D, h1, h2⟩ := h
  exact ⟨D, h1.kept hg hne, h2⟩
theorem MapTo.up (h : MapTo en li z P w k e b n f) (hb : Below w.heap.size w w') : MapTo en li z P w' k e b n f := h.kept (grown_of_below hb) (by simp)
theorem MapTo.alloc (h : MapTo en li z P w k e b n f) (o : Obj) : MapTo en li z P (w.alloc o) k e b n f := h.up ((Below.refl _ _).alloc (Nat.le_refl _) o)
theorem MapTo.drew (h : MapTo en li z P w k e b n f) : MapTo en li z P w.drew k e b n f := h.up (Below.refl _ _).drew
theorem MapTo.look {t : TypeId} (h : MapTo en li z P w k e b n f) (K : Keyed P k) (ht : P.underlying t = some (.map k e)) (hz : (zeroValue e).run P w = .ok (en z) w) (hzd : plainElem (H := Unit) P e (en z) = some (.lit (li z), [])) (hin : ∀ v x ps, plainElem (H := Unit) P e v = some (.lit (li x), ps) → v = en x)
    {key : Value} {kl : Lit} (hkey : keyOf P k key = some kl) : (Instr.lookup t (.map (some b)) key false).run P w = .ok (en (f key)) w := by
  obtain ⟨D, h1, h2⟩ := h
  obtain ⟨v, ps, hrun, hv⟩ := h1.lookup K ht hz hzd hkey
  rw [h2 key kl hkey] at hv
  rw [hrun, hin _ _ _ hv]
end
theorem MapTo.put {α : Type} {en : α → Value} {li : α → Lit} {z : α} {P : Program} {W : World} {t k e : TypeId} (K : Keyed P k) (ht : P.underlying t = some (.map k e)) {b n : Nat} {f : Value → α} (h : MapTo en li z P W k e b n f) (hn : n ≤ 16777216) {key : Value} {x : α}
    {kl : Lit} (hkey : keyOf P k key = some kl) (hpe : plainElem (H := Unit) P e (en x) = some (.lit (li x), [])) : ∃ w', (Instr.mapUpdate t (.map (some b)) key (en x)).run P W = .ok () w' ∧ (∀ g : Value → α, g key = x → (∀ q, q ≠ key → g q = f q) → MapTo en li z P w' k e b (n + 1) g) ∧ W.grownBy w' (some b) := by
  obtain ⟨D, h1, h2⟩ := h
  obtain ⟨w', hrun, hown, hg⟩ := h1.update K ht (by unfold maxLen; omega) hkey hpe
  refine ⟨w', hrun, fun g g1 g2 => ⟨_, hown, fun key' kl' hk' => ?_⟩, hg⟩
  by_cases ek : kl' = kl
  · subst ek
    have e1 : key' = key := K.inj hk' hkey
    subst e1
    rw [Maps.atKey_put_same h1.isMap (K.key hkey), g1]
  · have e1 : key' ≠ key := fun e2 => ek (by rw [e2, hkey] at hk'; injection hk' with hk'; exact hk'.symm)
    rw [Maps.atKey_put_other ek, g2 _ e1]
    exact h2 key' kl' hk'
theorem wp_map_put {α : Type} {en : α → Value} {li : α → Lit} {z : α} {P : Program} {o : Oper} {a : Act} {K' : Act → World → Prop} {Q : Exit → Act → World → Prop} {W : World} (M X V : Operand) (t : TypeId) (hop : o.op = Op.mapUpdate t M X V)
    {k e : TypeId} (K : Keyed P k) (ht : P.underlying t = some (.map k e)) {b n : Nat} {f : Value → α} (hm : a.eval M = .map (some b)) (h : MapTo en li z P W k e b n f) (hn : n ≤ 16777216) {key : Value} (hx : a.eval X = key) {x : α} (hv : a.eval V = en x)
    {kl : Lit} (hkey : keyOf P k key = some kl) (hpe : plainElem (H := Unit) P e (en x) = some (.lit (li x), [])) (hK : ∀ w', (∀ g : Value → α, g key = x → (∀ q, q ≠ key → g q = f q) → MapTo en li z P w' k e b (n + 1) g) → W.grownBy w' (some b) → K' (a.put o.dst undef) w') : o.wp P a W K' Q := by
  obtain ⟨w', hrun, r1, r2⟩ := h.put K ht hn hkey hpe
  unfold Oper.wp
  simp [execOp, hop, hm, hx, hv, hrun, Result.andThen]
  exact hK w' r1 r2
theorem wpList_map_put {α : Type} {en : α → Value} {li : α → Lit} {z : α} {P : Program} {ops : Array Oper} {rest : List Oper} {o : Oper} {a : Act} {Q : Exit → Act → World → Prop} {W : World} (hgd : o.guard = none) (M X V : Operand) (t : TypeId) (hop : o.op = Op.mapUpdate t M X V)
    {k e : TypeId} (K : Keyed P k) (ht : P.underlying t = some (.map k e)) {b n : Nat} {f : Value → α} (hm : a.eval M = .map (some b)) (h : MapTo en li z P W k e b n f) (hn : n ≤ 16777216) {key : Value} (hx : a.eval X = key) {x : α} (hv : a.eval V = en x)
    {kl : Lit} (hkey : keyOf P k key = some kl) (hpe : plainElem (H := Unit) P e (en x) = some (.lit (li x), [])) (hK : ∀ w', (∀ g : Value → α, g key = x → (∀ q, q ≠ key → g q = f q) → MapTo en li z P w' k e b (n + 1) g) → W.grownBy w' (some b) → wpList P ops Q rest (a.put o.dst undef) w') : wpList P ops Q (o :: rest) a W := by
  refine wpList_plain hgd fun K' hK' => wp_map_put M X V t hop K ht hm h hn hx hv hkey hpe fun w' r1 r2 => hK' _ _ (hK w' r1 r2)
theorem step_map_put {α : Type} {en : α → Value} {li : α → Lit} {z : α} {P : Program} {ops : Array Oper} {o : Oper} {a : Act} {K' : Act → World → Prop} {Q : Exit → Act → World → Prop} {E' : Prop} {W : World} (hgd : o.guard = none) (M X V : Operand) (t : TypeId) (hop : o.op = Op.mapUpdate t M X V)
    {k e : TypeId} (K : Keyed P k) (ht : P.underlying t = some (.map k e)) {b n : Nat} {f : Value → α} (hm : a.eval M = .map (some b)) (h : MapTo en li z P W k e b n f) (hn : n ≤ 16777216) {key : Value} (hx : a.eval X = key) {x : α} (hv : a.eval V = en x)
    {kl : Lit} (hkey : keyOf P k key = some kl) (hpe : plainElem (H := Unit) P e (en x) = some (.lit (li x), [])) (hK : ∀ w', (∀ g : Value → α, g key = x → (∀ q, q ≠ key → g q = f q) → MapTo en li z P w' k e b (n + 1) g) → W.grownBy w' (some b) → K' (a.put o.dst undef) w') :
    if Region.wanted o (yielded ops a.tmps) = true then Oper.wp P o a W K' Q else E' := by
  have hw : Region.wanted o (yielded ops a.tmps) = true := by simp [Region.wanted, hgd]
  rw [if_pos hw]
  exact wp_map_put M X V t hop K ht hm h hn hx hv hkey hpe hK
theorem wp_map_ins {α : Type} {en : α → Value} {li : α → Lit} {z : α} {P : Program} {o : Oper} {a : Act} {K' : Act → World → Prop} {Q : Exit → Act → World → Prop} {W : World} (M X V : Operand) (t : TypeId) (hop : o.op = Op.insert t M X V)
    {k e : TypeId} (K : Keyed P k) (ht : P.underlying t = some (.map k e)) {b n : Nat} {f : Value → α} (hm : a.eval M = .map (some b)) (h : MapTo en li z P W k e b n f) (hn : n ≤ 16777216) {key : Value} (hx : a.eval X = key) {x : α} (hv : a.eval V = en x)
    {kl : Lit} (hkey : keyOf P k key = some kl) (hpe : plainElem (H := Unit) P e (en x) = some (.lit (li x), [])) (hK : ∀ w', (∀ g : Value → α, g key = x → (∀ q, q ≠ key → g q = f q) → MapTo en li z P w' k e b (n + 1) g) → W.grownBy w' (some b) → K' (a.put o.dst undef) w') : o.wp P a W K' Q := by
  obtain ⟨w', hrun, r1, r2⟩ := h.put K ht hn hkey hpe
  unfold Oper.wp
  simp [execOp, hop, hm, hx, hv, hrun, Result.andThen]
  exact hK w' r1 r2
theorem step_map_ins {α : Type} {en : α → Value} {li : α → Lit} {z : α} {P : Program} {ops : Array Oper} {o : Oper} {a : Act} {K' : Act → World → Prop} {Q : Exit → Act → World → Prop} {E' : Prop} {W : World} (hgd : o.guard = none) (M X V : Operand) (t : TypeId) (hop : o.op = Op.insert t M X V)
    {k e : TypeId} (K : Keyed P k) (ht : P.underlying t = some (.map k e)) {b n : Nat} {f : Value → α} (hm : a.eval M = .map (some b)) (h : MapTo en li z P W k e b n f) (hn : n ≤ 16777216) {key : Value} (hx : a.eval X = key) {x : α} (hv : a.eval V = en x)
    {kl : Lit} (hkey : keyOf P k key = some kl) (hpe : plainElem (H := Unit) P e (en x) = some (.lit (li x), [])) (hK : ∀ w', (∀ g : Value → α, g key = x → (∀ q, q ≠ key → g q = f q) → MapTo en li z P w' k e b (n + 1) g) → W.grownBy w' (some b) → K' (a.put o.dst undef) w') :
    if Region.wanted o (yielded ops a.tmps) = true then Oper.wp P o a W K' Q else E' := by
  have hw : Region.wanted o (yielded ops a.tmps) = true := by simp [Region.wanted, hgd]
  rw [if_pos hw]
  exact wp_map_ins M X V t hop K ht hm h hn hx hv hkey hpe hK
/-- The bound on a map's size is the length of what it reads as. -/
theorem ownsMap_tight {H : Type} {P : Program} {w : World} {k : TypeId} {R : Value → Option (DataW H × List MemPlace)} {b n m : Nat} {l : List (Lit × DataW H)} (h : w.ownsMap P k R b n (.map l)) (hm : l.length ≤ m) : w.ownsMap P k R b m (.map l) := by
  obtain ⟨es, clock, hb, F, hs, hD⟩ := h
  refine ⟨es, clock, hb, F, ?_, hD⟩
  injection hD with hD
  have e1 := congrArg List.length hD
  rw [length_sorted] at e1
  simp at e1
  omega
/-- The world behind 'm[key] = v'. -/
def putW (P : Program) (t : TypeId) (b : Nat) (key v : Value) (u : World) : World :=
  match (Instr.mapUpdate t (.map (some b)) key v).run P u with
  | .ok _ w' => w'
  | _ => u
theorem putW_eq {P : Program} {t : TypeId} {b : Nat} {key v : Value} {u w' : World} (h : (Instr.mapUpdate t (.map (some b)) key v).run P u = .ok () w') : putW P t b key v u = w' := by
  rw [putW, h]
/-! strings -/
def sLi (s : ByteArray) : Lit := .string s.data.toList
theorem ba_ext {s t : ByteArray} (h : s.data.toList = t.data.toList) : s = t := by
  cases s; cases t
  simp only [ByteArray.mk.injEq]
  exact Array.ext' h
theorem sLi_pe {P : Program} {e : TypeId} (he : P.underlying e = some .string) {s : ByteArray} (hs : s.size ≤ 16777216) : plainElem (H := Unit) P e (.string s) = some (.lit (sLi s), []) := plainElem_string he (by unfold maxLen; omega)
theorem sLi_in {P : Program} {e : TypeId} (he : P.underlying e = some .string) (v : Value) (x : ByteArray) (ps : List MemPlace) (h : plainElem (H := Unit) P e v = some (.lit (sLi x), ps)) : v = .string x := by
  obtain ⟨s, rfl, hz, _⟩ := plainElem_string_inv he h
  simp only [Prod.mk.injEq, DataW.lit.injEq, sLi, Lit.string.injEq] at hz
  rw [ba_ext hz.1]
/-! ints -/
theorem lit_i64 {x : Int} (h : I64 x) : (Lit.int .i64 x).wf = true := by
  simp only [Lit.wf, Bool.and_eq_true, decide_eq_true_eq]
  exact h
def iLi (i : Int) : Lit := .int .i64 i
theorem iLi_pe {P : Program} {e : TypeId} (he : P.underlying e = some (.int .i64)) {i : Int} (hi : I64 i) : plainElem (H := Unit) P e (.int .i64 i) = some (.lit (iLi i), []) := plainElem_int he (lit_i64 hi)
theorem iLi_in {P : Program} {e : TypeId} (he : P.underlying e = some (.int .i64)) (v : Value) (x : Int) (ps : List MemPlace) (h : plainElem (H := Unit) P e v = some (.lit (iLi x), ps)) : v = .int .i64 x := by
  obtain ⟨s, rfl, hz, _⟩ := plainElem_int_inv he h
  simp only [Prod.mk.injEq, DataW.lit.injEq, iLi, Lit.int.injEq] at hz
  rw [hz.1.2]
end Go.Proofs.YtidolgonmimicaaGreat
/- The walks through touches: good ones and their heads, both sides. -/
namespace Go.Proofs.YtidolgonmimicaaGreat
set_option linter.unusedVariables false
set_option linter.unusedSimpArgs false
open Go.ChangeShapes Go.WideShapes Go.ChangeAt Go.RowKit Go.Deep
theorem letter_one {t : ByteArray} {k : Nat} (h : k < t.size) : letter t k = strOfNums [PlainAid.bt t k] := one_byte h
theorem letter_p {t : ByteArray} {k : Nat} (h : k < t.size) (e : PlainAid.bt t k = 112) : letter t k = ⟨#[112]⟩ := by rw [letter_one h, e]; rfl
theorem letter_b {t : ByteArray} {k : Nat} (h : k < t.size) (e : PlainAid.bt t k = 98) : letter t k = ⟨#[98]⟩ := by rw [letter_one h, e]; rfl
theorem letter_s {t : ByteArray} {k : Nat} (h : k < t.size) (e : PlainAid.bt t k = 115) : letter t k = ⟨#[115]⟩ := by rw [letter_one h, e]; rfl
theorem is_one {c : ByteArray} {x : UInt8} (h : (c.toList == [x]) = true) : c = ⟨#[x]⟩ := by
  have h1 : c.toList = [x] := by simpa using h
  have h2 : c.data.toList = [x] := by rw [← ByteArray.toList_eq]; exact h1
  exact ba_ext (t := ⟨#[x]⟩) h2
theorem isCl_letter {t : ByteArray} {k : Nat} (h : k < t.size) : isCl (letter t k) = callB t k := by
  have nn := PlainAid.bt_nonneg t k; have nl := PlainAid.bt_le t k
  by_cases e1 : PlainAid.bt t k = 112
  · rw [letter_p h e1, show callB t k = true from by simp [callB, e1]]; decide +kernel
  by_cases e2 : PlainAid.bt t k = 98
  · rw [letter_b h e2, show callB t k = true from by simp [callB, e2]]; decide +kernel
  by_cases e3 : PlainAid.bt t k = 115
  · rw [letter_s h e3, show callB t k = true from by simp [callB, e3]]; decide +kernel
  have hb : callB t k = false := by simp [callB, e1, e2, e3]
  rw [hb]
  have key : ∀ x : UInt8, (PlainAid.bt t k ≠ x.toNat) → ((letter t k).toList == [x]) = false := by
    intro x hx
    rcases hq : ((letter t k).toList == [x])
    · rfl
    · exfalso
      have e4 := is_one hq
      rw [letter_one h] at e4
      have e5 := congrArg nums e4
      rw [nums_strOf (by intro y hy; simp at hy; subst hy; omega)] at e5
      apply hx
      have e6 : nums ⟨#[x]⟩ = [(x.toNat : Int)] := by rfl
      rw [e6] at e5
      injection e5
  rw [isCl, isP, isB, isS, key 112 e1, key 98 e2, key 115 e3]
  rfl
set_option maxRecDepth 100000 in
theorem impl_areCalls {t : ByteArray} {w : World} (hz : t.size ≤ 16777216) :
    Calls Tryz.prog 161 #[.string t] w fun e w' => e = .returned (.bool ((List.range t.size).all (callB t))) ∧ w = w' := by
  have gb := PlainAid.get_bt t
  go_in
  go_wp2
  go_loopw [6] (fun i wr => ∃ k : Nat, k ≤ t.size ∧ i = .int .i64 k ∧ Hid (∀ j, j < k → callB t j = true) ∧ w = wr) (fun i _ => t.size - (intOf i).toNat)
  case atStart => exact ⟨0, Nat.zero_le _, rfl, Lib.hid (fun j hj => absurd hj (by omega)), rfl⟩
  case round =>
    obtain ⟨k, hk, rfl, HK, rfl⟩ := hrel
    by_cases hlt : k < t.size
    · go_wp2_with fail
      refine (impl_isCall (s := letter t k)).mono ?_; rintro e w' ⟨rfl, rfl⟩
      have E := Lib.hid (isCl_letter hlt)
      rcases hg : isCl (letter t k)
      · have e1 := Lib.hid (show (List.range t.size).all (callB t) = false by rw [List.all_eq_false]; exact ⟨k, List.mem_range.2 hlt, by rw [← E.out, hg]; simp⟩)
        go_wp2
        go_ret
        rw [e1.out]
        exact ⟨rfl, rfl⟩
      · have e1 := Lib.hid (show callB t k = true by rw [← E.out, hg])
        go_wp2
        go_roundw
        case rel => exact ⟨k + 1, by omega, by go_num, Lib.hid (upto_succ HK.out e1.out), trivial⟩
        case measure => simp [intOf]; omega
    · obtain rfl : k = t.size := by omega
      have e1 := Lib.hid (show (List.range t.size).all (callB t) = true by rw [List.all_eq_true]; exact fun j hj => HK.out j (List.mem_range.1 hj))
      go_wp2
      go_ret
      rw [e1.out]
      exact ⟨rfl, rfl⟩
theorem impl_GoodTouch {t : ByteArray} {w : World} (hz : t.size ≤ 16777216) :
    Calls Tryz.prog 84 #[.string t] w fun e w' => e = .returned (.bool (goodT t)) ∧ w = w' := by
  have HQ : Hid (goodT t = ((List.range t.size).all (callB t) && inB t.size 1 60)) := Lib.hid rfl
  by_cases h1 : t.size < 1
  · have hI : ¬ (1 : Int) ≤ (t.size : Int) := by omega
    have e1 := Lib.hid (show goodT t = false by rw [HQ.out, inB, decide_eq_false (by omega), Bool.and_false])
    go_in
    go_wp2
    go_ret
    rw [e1.out]
    exact ⟨rfl, rfl⟩
  · by_cases h2 : 60 < t.size
    · have hI : (1 : Int) ≤ (t.size : Int) := by omega
      have hJ : ¬ (t.size : Int) ≤ 60 := by omega
      have e1 := Lib.hid (show goodT t = false by rw [HQ.out, inB, decide_eq_false (by omega), Bool.and_false])
      go_in
      go_wp2
      go_ret
      rw [e1.out]
      exact ⟨rfl, rfl⟩
    · have hI : (1 : Int) ≤ (t.size : Int) := by omega
      have hJ : (t.size : Int) ≤ 60 := by omega
      have e1 := Lib.hid (show goodT t = (List.range t.size).all (callB t) by rw [HQ.out, inB, decide_eq_true (by omega), Bool.and_true])
      go_in
      go_wp2_with fail
      refine (impl_areCalls hz).mono ?_; rintro e w' ⟨rfl, rfl⟩
      go_wp2
      go_ret
      rw [e1.out]
      exact ⟨rfl, rfl⟩
set_option maxHeartbeats 1000000 in
theorem impl_goodFor {A : Option Addr} {n c : Nat} {nm : ByteArray} {st : Int} {l : List ByteArray} {kb ks : ByteArray} {t : ByteArray} {w : World} (hn : l.length = n) (h : Strs w A l) (hz : n ≤ 1048576) (hs : ∀ s ∈ l, s.size ≤ 16777216) (hnm : nm.size ≤ 16777216) (hst : I64 st) (hkb : kb.size ≤ 16777216) (hks : ks.size ≤ 16777216) (ht : t.size ≤ 16777216) :
    Calls Tryz.prog 130 #[.agg #[.string nm, .int .i64 st, .slice A n c], .agg #[.string kb, .string ks], .string t] w fun e w' => e = .returned (.bool (goodF nm st l kb ks t)) ∧ Below w.heap.size w w' := by
  have HQ : Hid (goodF nm st l kb ks t = (goodK nm st l kb ks && goodT t)) := Lib.hid rfl
  have b0 : Below w.heap.size w ((w.alloc (.cells ⟨[.string nm, .int .i64 st, .slice A n c]⟩ 25)).alloc (.cells ⟨[.string kb, .string ks]⟩ 27)) := by (repeat' (first | (with_reducible exact Below.refl _ _) | (with_reducible assumption) | (with_reducible refine below_drewN ?_ _) | (with_reducible refine Below.drew ?_) | (with_reducible refine below_alloc ?_ _) | (with_reducible refine Below.alloc ?_ ?_ _) | (with_reducible refine Below.setCell ?_ ?_ _) | (with_reducible refine below_go ?_ (by with_reducible assumption)) | (with_reducible refine below_then (by with_reducible assumption) ?_ ?_) | go_size))
  go_in
  go_wp2_with fail
  refine (impl_GoodCalls hn (h.up b0) hz hs hnm hst hkb hks).mono ?_; rintro e w1 ⟨rfl, hb1⟩
  rcases h1 : goodK nm st l kb ks
  · have e1 := Lib.hid (show goodF nm st l kb ks t = false by rw [HQ.out, h1]; rfl)
    go_wp2
    go_ret
    rw [e1.out]
    exact ⟨rfl, below_go b0 hb1⟩
  · have e1 := Lib.hid (show goodF nm st l kb ks t = goodT t by rw [HQ.out, h1]; rfl)
    go_wp2_with fail
    refine (impl_GoodTouch ht).mono ?_; rintro e w' ⟨rfl, rfl⟩
    go_wp2
    go_ret
    rw [e1.out]
    exact ⟨rfl, below_go b0 hb1⟩
set_option maxRecDepth 100000 in
theorem spec_l9Good {t : ByteArray} {w : World} (hz : t.size ≤ 16777216) :
    Calls Tryz.prog 87 #[.string t] w fun e w' => e = .returned (.bool (goodT t)) ∧ w = w' := by
  have gb := PlainAid.get_bt t
  have HQ : Hid (goodT t = ((List.range t.size).all (callB t) && inB t.size 1 60)) := Lib.hid rfl
  go_in
  go_wp2
  go_loopw [3] (fun i wr => ∃ k : Nat, k ≤ t.size ∧ i = .int .i64 k ∧ Hid (∀ j, j < k → callB t j = true) ∧ w = wr) (fun i _ => t.size - (intOf i).toNat)
  case atStart => exact ⟨0, Nat.zero_le _, rfl, Lib.hid (fun j hj => absurd hj (by omega)), rfl⟩
  case round =>
    obtain ⟨k, hk, rfl, HK, rfl⟩ := hrel
    by_cases hlt : k < t.size
    · go_wp2_with fail
      refine (spec_l8Call (s := letter t k)).mono ?_; rintro e w' ⟨rfl, rfl⟩
      have E := Lib.hid (isCl_letter hlt)
      rcases hg : isCl (letter t k)
      · have e1 := Lib.hid (show goodT t = false by
          rw [HQ.out, show (List.range t.size).all (callB t) = false from by rw [List.all_eq_false]; exact ⟨k, List.mem_range.2 hlt, by rw [← E.out, hg]; simp⟩, Bool.false_and])
        go_wp2
        go_ret
        rw [e1.out]
        exact ⟨rfl, rfl⟩
      · have e1 := Lib.hid (show callB t k = true by rw [← E.out, hg])
        go_wp2
        go_roundw
        case rel => exact ⟨k + 1, by omega, by go_num, Lib.hid (upto_succ HK.out e1.out), trivial⟩
        case measure => simp [intOf]; omega
    · obtain rfl : k = t.size := by omega
      have e1 := Lib.hid (show goodT t = inB t.size 1 60 by rw [HQ.out, show (List.range t.size).all (callB t) = true from by rw [List.all_eq_true]; exact fun j hj => HK.out j (List.mem_range.1 hj), Bool.true_and])
      go_wp2_with fail
      refine (spec_l1In _ _ _ _).mono ?_; rintro e w' ⟨rfl, rfl⟩
      go_wp2
      go_ret
      rw [e1.out]
      exact ⟨rfl, rfl⟩
end Go.Proofs.YtidolgonmimicaaGreat
/- The walks through the heads of a touch, the program's side. -/
namespace Go.Proofs.YtidolgonmimicaaGreat
set_option linter.unusedVariables false
set_option linter.unusedSimpArgs false
open Go.ChangeShapes Go.WideShapes Go.ChangeAt Go.RowKit Go.Deep
open Go.Maps (Keyed string_keyed int_keyed)
open Go.Maps (keyOf_int_mk)
theorem Below.step {w0 w w' : World} (C : Below w0.heap.size w0 w) (hb : Below w.heap.size w w') : Below w0.heap.size w0 w' := C.trans (hb.mono C.size)
/-- What a map from the three bytes reads as when some are laid. -/
def triL (p q r : Bool) (X Y Z : ByteArray) : List (Lit × DataW Unit) :=
  (if q = true then [(.int .u8 98, .lit (sLi Y))] else []) ++ ((if p = true then [(.int .u8 112, .lit (sLi X))] else []) ++ (if r = true then [(.int .u8 115, .lit (sLi Z))] else []))
theorem triL_len (p q r : Bool) (X Y Z : ByteArray) : (triL p q r X Y Z).length ≤ 3 := by cases p <;> cases q <;> cases r <;> simp [triL]
theorem triL_p (p q r : Bool) (X Y Z : ByteArray) : (DataW.map (triL p q r X Y Z)).put (.int .u8 112) (.lit (sLi X)) = .map (triL true q r X Y Z) := by cases p <;> cases q <;> cases r <;> rfl
theorem triL_q (p q r : Bool) (X Y Z : ByteArray) : (DataW.map (triL p q r X Y Z)).put (.int .u8 98) (.lit (sLi Y)) = .map (triL p true r X Y Z) := by cases p <;> cases q <;> cases r <;> rfl
theorem triL_r (p q r : Bool) (X Y Z : ByteArray) : (DataW.map (triL p q r X Y Z)).put (.int .u8 115) (.lit (sLi Z)) = .map (triL p q true X Y Z) := by cases p <;> cases q <;> cases r <;> rfl
/-- Block b, made behind w0, is such a map; nothing below w0's end has changed. -/
def Tri (P : Program) (X Y Z : ByteArray) (w0 w : World) (b : Nat) (p q r : Bool) : Prop := w0.heap.size ≤ b ∧ Below w0.heap.size w0 w ∧ w.ownsMap P 5 (plainElem P 9) b 3 (.map (triL p q r X Y Z))
def IsTri (P : Program) (X Y Z : ByteArray) (w0 w : World) (b : Nat) : Prop := ∃ p q r, Tri P X Y Z w0 w b p q r
section
variable {P : Program} {w0 w w' : World} {b : Nat} {p q r : Bool} {X Y Z : ByteArray}
theorem Tri.made (C : Below w0.heap.size w0 w) : Tri P X Y Z w0 (w.alloc (.map #[] 0)) w.heap.size false false false :=
  ⟨C.size, C.alloc C.size _, ownsMap_tight (l := triL false false false X Y Z) (World.ownsMap_made w P _ _) (triL_len _ _ _ _ _ _)⟩
theorem Tri.up (h : Tri P X Y Z w0 w b p q r) (hb : Below w.heap.size w w') : Tri P X Y Z w0 w' b p q r := ⟨h.1, Below.step h.2.1 hb, h.2.2.kept (grown_of_below hb) (by simp)⟩
theorem Tri.c (h : Tri P X Y Z w0 w b p q r) : Below w0.heap.size w0 w := h.2.1
theorem IsTri.c (h : IsTri P X Y Z w0 w b) : Below w0.heap.size w0 w := by obtain ⟨p, q, r, h⟩ := h; exact h.2.1
theorem IsTri.up (h : IsTri P X Y Z w0 w b) (hb : Below w.heap.size w w') : IsTri P X Y Z w0 w' b := by obtain ⟨p, q, r, h⟩ := h; exact ⟨p, q, r, h.up hb⟩
theorem IsTri.made (C : Below w0.heap.size w0 w) : IsTri P X Y Z w0 (w.alloc (.map #[] 0)) w.heap.size := ⟨_, _, _, Tri.made C⟩
theorem Tri.put (h : Tri P X Y Z w0 w b p q r) (K : Keyed P 5) {t : TypeId} (ht : P.underlying t = some (.map 5 9)) (he : P.underlying 9 = some .string) {key : Value} {kl : Lit} (hkey : keyOf P 5 key = some kl) {x : ByteArray} (hx : x.size ≤ 16777216) {p' q' r' : Bool}
    (hL : (DataW.map (triL p q r X Y Z)).put kl (.lit (sLi x)) = .map (triL p' q' r' X Y Z)) :
    (Instr.mapUpdate t (.map (some b)) key (.string x)).run P w = .ok () (putW P t b key (.string x) w) ∧ Tri P X Y Z w0 (putW P t b key (.string x) w) b p' q' r' := by
  obtain ⟨h1, h2, h3⟩ := h
  obtain ⟨w', hrun, hown, hg⟩ := h3.update K ht (by decide) hkey (sLi_pe he hx)
  rw [putW_eq hrun]
  rw [hL] at hown
  exact ⟨hrun, h1, h2.trans ((Below.refl _ _).grown hg h2.size fun k hk => by injection hk with hk; rw [← hk]; exact h1), ownsMap_tight hown (triL_len _ _ _ _ _ _)⟩
end
theorem Tri.get {P : Program} {w0 w : World} {b : Nat} {X Y Z : ByteArray} (h : Tri P X Y Z w0 w b true true true) (K : Keyed P 5) {t : TypeId} (ht : P.underlying t = some (.map 5 9)) (he : P.underlying 9 = some .string)
    (hz : (zeroValue 9).run P w = .ok (.string ByteArray.empty) w) (k1 : keyOf P 5 (.int .u8 112) = some (.int .u8 112)) (k2 : keyOf P 5 (.int .u8 98) = some (.int .u8 98)) (k3 : keyOf P 5 (.int .u8 115) = some (.int .u8 115)) :
    (Instr.lookup t (.map (some b)) (.int .u8 112) false).run P w = .ok (.string X) w ∧ (Instr.lookup t (.map (some b)) (.int .u8 98) false).run P w = .ok (.string Y) w ∧ (Instr.lookup t (.map (some b)) (.int .u8 115) false).run P w = .ok (.string Z) w := by
  have go : ∀ (a : Int) (x : ByteArray), keyOf P 5 (.int .u8 a) = some (.int .u8 a) → (DataW.map (triL true true true X Y Z)).atKey (.int .u8 a) (.lit (sLi ByteArray.empty)) = .lit (sLi x) → (Instr.lookup t (.map (some b)) (.int .u8 a) false).run P w = .ok (.string x) w := by
    intro a x hkey hat
    obtain ⟨v, ps, hrun, hv⟩ := h.2.2.lookup K ht hz (sLi_pe he (by decide)) hkey
    rw [hat] at hv
    rw [hrun, sLi_in he _ _ _ hv]
  exact ⟨go 112 X k1 rfl, go 98 Y k2 rfl, go 115 Z k3 rfl⟩
def Holds (I : World → Nat → Prop) (u : World) (b : Nat) : Prop := I u b
theorem heads_kit {P : Program} (w0 : World) {X Y Z : ByteArray} (K : Keyed P 5) {t : TypeId} (ht : P.underlying t = some (.map 5 9)) (he : P.underlying 9 = some .string) (hu : P.underlying 5 = some (.int .u8)) (hX : X.size ≤ 16777216) (hY : Y.size ≤ 16777216) (hZ : Z.size ≤ 16777216) :
    ∃ (T : World → Nat → Bool → Bool → Bool → Prop) (I : World → Nat → Prop) (PP PQ PR : World → Nat → World),
      (∀ u b, Holds I u b → Below w0.heap.size w0 u) ∧ (∀ u b p q r, T u b p q r → Holds I u b) ∧ (∀ u b, Holds I u b → Holds I (PP u b) b) ∧ (∀ u b, Holds I u b → Holds I (PQ u b) b) ∧ (∀ u b, Holds I u b → Holds I (PR u b) b) ∧
      (∀ u b, Holds I u b → Sem.run P (Instr.mapUpdate t (.map (some b)) (.int .u8 112) (.string X)) u = .ok () (PP u b)) ∧ (∀ u b, Holds I u b → Sem.run P (Instr.mapUpdate t (.map (some b)) (.int .u8 98) (.string Y)) u = .ok () (PQ u b)) ∧ (∀ u b, Holds I u b → Sem.run P (Instr.mapUpdate t (.map (some b)) (.int .u8 115) (.string Z)) u = .ok () (PR u b)) ∧
      (∀ u, Below w0.heap.size w0 u → T (u.alloc (.map #[] 0)) u.heap.size false false false) ∧ (∀ u u' b p q r, T u b p q r → Below u.heap.size u u' → T u' b p q r) ∧
      (∀ u b p q r, T u b p q r → T (PP u b) b true q r) ∧ (∀ u b p q r, T u b p q r → T (PQ u b) b p true r) ∧ (∀ u b p q r, T u b p q r → T (PR u b) b p q true) ∧ (∀ u b p q r, T u b p q r → Tri P X Y Z w0 u b p q r) := by
  have hp : ∀ u b p q r, Tri P X Y Z w0 u b p q r → _ := fun u b p q r h => h.put K ht he (keyOf_int_mk hu (a := 112) (by decide)) hX (triL_p p q r X Y Z)
  have hq : ∀ u b p q r, Tri P X Y Z w0 u b p q r → _ := fun u b p q r h => h.put K ht he (keyOf_int_mk hu (a := 98) (by decide)) hY (triL_q p q r X Y Z)
  have hr : ∀ u b p q r, Tri P X Y Z w0 u b p q r → _ := fun u b p q r h => h.put K ht he (keyOf_int_mk hu (a := 115) (by decide)) hZ (triL_r p q r X Y Z)
  refine ⟨Tri P X Y Z w0, IsTri P X Y Z w0, fun u b => putW P t b (.int .u8 112) (.string X) u, fun u b => putW P t b (.int .u8 98) (.string Y) u, fun u b => putW P t b (.int .u8 115) (.string Z) u, fun u b h => h.c, fun u b p q r h => ⟨p, q, r, h⟩, ?_, ?_, ?_, ?_, ?_, ?_, fun u h => Tri.made h, fun u u' b p q r h hb => h.up hb, fun u b p q r h => (hp u b p q r h).2, fun u b p q r h => (hq u b p q r h).2, fun u b p q r h => (hr u b p q r h).2, fun _ _ _ _ _ h => h⟩
  · rintro u b ⟨p, q, r, h⟩; exact ⟨_, _, _, (hp u b p q r h).2⟩
  · rintro u b ⟨p, q, r, h⟩; exact ⟨_, _, _, (hq u b p q r h).2⟩
  · rintro u b ⟨p, q, r, h⟩; exact ⟨_, _, _, (hr u b p q r h).2⟩
  · rintro u b ⟨p, q, r, h⟩; exact (hp u b p q r h).1
  · rintro u b ⟨p, q, r, h⟩; exact (hq u b p q r h).1
  · rintro u b ⟨p, q, r, h⟩; exact (hr u b p q r h).1
set_option maxHeartbeats 40000000 in
set_option maxRecDepth 100000 in
theorem impl_heads {A : Option Addr} {n c st : Nat} {nm : ByteArray} {l : List ByteArray} {kb ks : ByteArray} {t : ByteArray} {w : World} (hn : l.length = n) (h : Strs w A l) (hk : goodK nm (st : Int) l kb ks = true) (hg : goodT t = true) :
    Calls Tryz.prog 131 #[.agg #[.string nm, .int .i64 st, .slice A n c], .agg #[.string kb, .string ks], .string t] w fun e w' => ∃ A' c', e = .returned (.slice A' (t.size + 1) c') ∧ Owned strE 1 9 w' w.heap.size A' (t.size + 1) c' (hdsL st l kb ks t (t.size + 1)) ∧ Below w.heap.size w w' := by
  have b0 : Below w.heap.size w ((w.alloc (.cells ⟨[.string nm, .int .i64 st, .slice A n c]⟩ 25)).alloc (.cells ⟨[.string kb, .string ks]⟩ 27)) := by (repeat' (first | (with_reducible exact Below.refl _ _) | (with_reducible assumption) | (with_reducible refine below_drewN ?_ _) | (with_reducible refine Below.drew ?_) | (with_reducible refine below_alloc ?_ _) | (with_reducible refine Below.alloc ?_ ?_ _) | (with_reducible refine Below.setCell ?_ ?_ _) | (with_reducible refine below_go ?_ (by with_reducible assumption)) | (with_reducible refine below_then (by with_reducible assumption) ?_ ?_) | go_size))
  have K0 := (Blk.at_ w 25 [.string nm, .int .i64 st, .slice A n c] (b := w.heap.size) rfl).alloc (.cells ⟨[.string kb, .string ks]⟩ 27)
  have K1 := Blk.at_ (w.alloc (.cells ⟨[.string nm, .int .i64 st, .slice A n c]⟩ 25)) 27 [.string kb, .string ks] (b := w.heap.size + 1) (by simp)
  have hmm := @run_makeMap Tryz.prog
  have KU := int_keyed (P := Tryz.prog) (k := 5) Tryz.underlying5
  go_in
  go_upto_region 1 with fail
  obtain ⟨w0, hw0⟩ : ∃ u, u = ((w.alloc (.cells #[.string nm, .int .i64 st, .slice A n c] 25)).alloc (.cells #[.string kb, .string ks] 27)) := ⟨_, rfl⟩
  rw [← hw0] at b0 K0 K1 ⊢
  clear hw0
  have H0 := Lib.hid (h.up b0)
  have carry : Hid (∀ u : World, Below w0.heap.size w0 u → (u.cell? ⟨w.heap.size, 0, none⟩ = some (.string nm) ∧ u.cell? ⟨w.heap.size, 1, none⟩ = some (.int .i64 st) ∧ u.cell? ⟨w.heap.size, 2, none⟩ = some (.slice A n c)) ∧ u.cell? ⟨w.heap.size + 1, 0, none⟩ = some (.string kb) ∧ u.cell? ⟨w.heap.size + 1, 1, none⟩ = some (.string ks)) := Lib.hid (fun u hu => by
    have L0 := K0.up hu; have L1 := K1.up hu
    exact ⟨⟨by simpa using L0.cell 0, by simpa using L0.cell 1, by simpa using L0.cell 2⟩, by simpa using L1.cell 0, by simpa using L1.cell 1⟩)
  clear h K0 K1
  have cf := Lib.hid (fun (u : World) (s : ByteArray) (hb : Below w0.heap.size w0 u) => impl_callHead (c := c) (s := s) hn (H0.out.up hb) hk)
  have C0 : Below w0.heap.size w0 w0.drew := (Below.refl _ _).drew
  have PG := Lib.hid (callHd_good hk)
  have PS := Lib.hid (fun s => show (callHd st l kb ks s).size ≤ 16777216 from by rw [(PG.out s).2]; have := (goodK_all hk).1; omega)
  obtain ⟨T, I, PP, PQ, PR, hC, hTI, HIP, HIQ, HIR, HUP, HUQ, HUR, hM, hU, hP, hQ, hR, hT⟩ := heads_kit (P := Tryz.prog) w0 KU Tryz.underlying171 Tryz.underlying9 Tryz.underlying5 (PS.out ⟨#[112]⟩) (PS.out ⟨#[98]⟩) (PS.out ⟨#[115]⟩)
  have HC := Lib.hid hC; have TI := Lib.hid hTI; have TM := Lib.hid hM; have TU := Lib.hid hU; have TP := Lib.hid hP; have TQ := Lib.hid hQ; have TR := Lib.hid hR; have TT := Lib.hid hT
  clear hC hTI hM hU hP hQ hR hT
  have N0 := TU.out _ _ _ _ _ _ (TM.out w0 (Below.refl _ _)) (Below.refl _ _).drew
  have M0 := TI.out _ _ _ _ _ N0
  go_cut [7] (fun s7 wx => ∃ b, s7 = .map (some b) ∧ T wx b true true true)
  case first =>
    go_region_held3 (fun u => (u.cell? ⟨w.heap.size, 0, none⟩ = some (.string nm) ∧ u.cell? ⟨w.heap.size, 1, none⟩ = some (.int .i64 st) ∧ u.cell? ⟨w.heap.size, 2, none⟩ = some (.slice A n c)) ∧ u.cell? ⟨w.heap.size + 1, 0, none⟩ = some (.string kb) ∧ u.cell? ⟨w.heap.size + 1, 1, none⟩ = some (.string ks)) (first | exact carry.out _ (by first | assumption | (apply HC.out; repeat (with_reducible first | assumption | apply HIP | apply HIQ | apply HIR)))) (first
      | (go_at_call 124; ((with_reducible refine (cf.out _ _ (by first | assumption | (apply HC.out; repeat (with_reducible first | assumption | apply HIP | apply HIQ | apply HIR)))).mono ?_); rintro e w1 ⟨rfl, hb1⟩; (first | (have N := TU.out _ _ _ _ _ _ (by assumption) hb1) | (have N := TU.out _ _ _ _ _ _ (TP.out _ _ _ _ _ (by assumption)) hb1) | (have N := TU.out _ _ _ _ _ _ (TQ.out _ _ _ _ _ (by assumption)) hb1) | (have N := TU.out _ _ _ _ _ _ (TQ.out _ _ _ _ _ (TP.out _ _ _ _ _ (by assumption))) hb1) | (have N := TU.out _ _ _ _ _ _ (TP.out _ _ _ _ _ (TQ.out _ _ _ _ _ (by assumption))) hb1) | (have C := Below.step (w0 := w0) (by assumption) hb1; have N := TM.out _ C)); have M := TI.out _ _ _ _ _ N; have MP := HIP _ _ M; have MQ := HIQ _ _ M; have MR := HIR _ _ M)))
    all_goals
      go_wp2_with fail
      go_meet
      refine ⟨_, rfl, ?_⟩
      repeat (with_reducible first | assumption | apply TP.out | apply TQ.out | apply TR.out)
  case rest =>
    obtain ⟨b, rfl, hT0⟩ := hcut
    have hT := TT.out _ _ _ _ _ hT0
    clear hT0 HIP HIQ HIR HUP HUQ HUR N0 M0
    rename World => w1
    obtain ⟨⟨k0, k1, k2⟩, q0, q1⟩ := carry.out _ hT.c
    have hB1 := b0.trans (hT.c.mono b0.size)
    obtain ⟨h8, h40, _⟩ := goodK_all hk
    have gb := PlainAid.get_bt t
    obtain ⟨ht1, ht60, htl⟩ := goodT_t hg
    have HL := Lib.hid htl
    have HD := Lib.hid (fun k => hdAt_good h8.1 h8.2 l kb ks t k)
    have H1 : Hid (Owned strE 1 9 (w1.alloc (.cells #[.string (roundsS st)] 9)) w1.heap.size (some ⟨w1.heap.size, 0, none⟩) 1 1 (hdsL st l kb ks t 1)) := Lib.hid ⟨strE_len, by simp [hdsL], by simpa [hdsL, hdAt, strE] using World.ownsRow_lit (e := 9) (base := w1.heap.size) (size := 1) w1 #[.string (roundsS st)] 1 (Nat.le_refl _) (by decide) (by simp)⟩
    clear htl hmm
    go_wp2_with fail
    refine (impl_rounds h8.2).mono ?_; rintro e w' ⟨rfl, rfl⟩
    go_wp2
    go_loopw [8, 9, 29] (fun r v i wr => ∃ (k : Nat) (A' : Option Addr) (m c' : Nat), k ≤ t.size ∧ i = .int .i64 k ∧ r = .string (hdAt st l kb ks t k) ∧ v = .slice A' m c' ∧ m = k + 1 ∧ Owned strE 1 9 wr w1.heap.size A' m c' (hdsL st l kb ks t (k + 1)) ∧ Below w1.heap.size w1 wr) (fun _ _ i _ => t.size - (intOf i).toNat)
    case atStart => exact ⟨0, _, _, _, Nat.zero_le _, rfl, rfl, rfl, rfl, H1.out, by (repeat' (first | (with_reducible exact Below.refl _ _) | (with_reducible assumption) | (with_reducible refine below_drewN ?_ _) | (with_reducible refine Below.drew ?_) | (with_reducible refine below_alloc ?_ _) | (with_reducible refine Below.alloc ?_ ?_ _) | (with_reducible refine Below.setCell ?_ ?_ _) | (with_reducible refine below_go ?_ (by with_reducible assumption)) | (with_reducible refine below_then (by with_reducible assumption) ?_ ?_) | go_size))⟩
    case round =>
      obtain ⟨k, A', m, c', hk1, rfl, rfl, rfl, rfl, ho, hb⟩ := hrel
      have HO := Lib.hid ho
      have hsz := hb.size
      clear ho
      by_cases hlt : k < t.size
      · have hLK := (hT.up hb).get KU Tryz.underlying171 Tryz.underlying9 (by kernel_rfl) (keyOf_int_mk Tryz.underlying5 (by decide)) (keyOf_int_mk Tryz.underlying5 (by decide)) (keyOf_int_mk Tryz.underlying5 (by decide))
        have LK : Sem.run Tryz.prog (Instr.lookup 171 (.map (some b)) (.int .u8 (PlainAid.bt t k)) false) wr = .ok (.string (callHd st l kb ks (letter t k))) wr := by
          have hcb := HL.out k hlt
          by_cases f1 : PlainAid.bt t k = 112
          · rw [f1, letter_p hlt f1]; exact hLK.1
          · by_cases f2 : PlainAid.bt t k = 98
            · rw [f2, letter_b hlt f2]; exact hLK.2.1
            · have f3 : PlainAid.bt t k = 115 := by
                rw [callB] at hcb
                simpa [f1, f2] using hcb
              rw [f3, letter_s hlt f3]; exact hLK.2.2
        clear hLK
        have p1 := PG.out (letter t k)
        have p2 := HD.out k
        have z1 : (hdAt st l kb ks t k).size ≤ 16777216 := by rw [p2.2]; omega
        have z2 : (callHd st l kb ks (letter t k)).size ≤ 16777216 := by rw [p1.2]; omega
        have hf : fits (hdAt st l kb ks t k) (callHd st l kb ks (letter t k)) := fits_good p1.1 (by rw [p1.2, p2.2])
        have E := Lib.hid (show timesS (hdAt st l kb ks t k) (callHd st l kb ks (letter t k)) = hdAt st l kb ks t (k + 1) from rfl)
        have HT := Lib.hid (hdsL_succ st l kb ks t (k + 1))
        clear p1 p2
        go_wp2_with (first | (go_at_call 123; refine (impl_times z1 z2 hf).mono ?_; rw [E.out]; rintro e w2 ⟨rfl, hb2⟩; have HO1 := Lib.hid (HO.out.up hb2); have hsz1 := hb2.size) | (at_builtin; go_must ((refine wpList_append_rec Tryz.elStr rfl (.tmp 39) (.tmp 41) rfl rfl (HO1.out.alloc _) (hdAt st l kb ks t (k + 1)) rfl (Box.at_ _ [.string (hdAt st l kb ks t (k + 1))] _ ?_) (strE_one _) ?_ (by decide) ?_ ?_; (focus (first | omega | (simp only [World.size_alloc]; done) | (simp only [World.size_alloc]; omega) | (simp; done) | (simp; omega))); (focus (first | omega | (simp only [World.size_alloc]; done) | (simp only [World.size_alloc]; omega) | (simp; done) | (simp; omega))); (focus (first | omega | (simp only [World.size_alloc]; done) | (simp only [World.size_alloc]; omega) | (simp; done) | (simp; omega))); intro A2 c2 w3 ho3 hg3 hb3))))
        go_roundw
        case rel => exact ⟨k + 1, A2, k + 1 + 1, c2, by omega, by go_num, rfl, by go_num, rfl, by rw [HT.out]; exact ho3, ((hb.trans (hb2.mono hsz)).alloc (by omega) _).trans hb3⟩
        case measure => simp [intOf]; omega
      · obtain rfl : k = t.size := by omega
        go_wp2
        go_ret
        exact ⟨_, _, rfl, HO.out.base_le hB1.size, below_go hB1 hb⟩
end Go.Proofs.YtidolgonmimicaaGreat
/- The heads and rows of a touch, the reference's side. -/
namespace Go.Proofs.YtidolgonmimicaaGreat
set_option linter.unusedVariables false
set_option linter.unusedSimpArgs false
open Go.ChangeShapes Go.WideShapes Go.ChangeAt Go.RowKit Go.Deep
theorem goodF_t' {nm : ByteArray} {st : Int} {l : List ByteArray} {kb ks t : ByteArray} (h : goodF nm st l kb ks t = true) : goodK nm st l kb ks = true ∧ goodT t = true := by
  rw [goodF, Bool.and_eq_true] at h; exact h
theorem Below.step' {w0 w w' : World} {b : Nat} (C : Below b w0 w) (hbs : b ≤ w0.heap.size) (hb : Below w.heap.size w w') : Below b w0 w' := C.trans (hb.mono (Nat.le_trans hbs C.size))
theorem spec_l9Asked {A : Option Addr} {n c : Nat} {nm : ByteArray} {st : Int} {l : List ByteArray} {kb ks : ByteArray} {t : ByteArray} {w : World} (hn : l.length = n) (h : Strs w A l) (hz : n ≤ 1048576) (hs : ∀ s ∈ l, s.size ≤ 16777216) (hnm : nm.size ≤ 16777216) (hst : I64 st) (hkb : kb.size ≤ 16777216) (hks : ks.size ≤ 16777216) (ht : t.size ≤ 16777216) :
    Calls Tryz.prog 88 #[.agg #[.string nm, .int .i64 st, .slice A n c], .agg #[.string kb, .string ks], .string t] w fun e w' => e = .returned (.bool (goodF nm st l kb ks t)) ∧ Below w.heap.size w w' := by
  have HQ : Hid (goodF nm st l kb ks t = (goodK nm st l kb ks && goodT t)) := Lib.hid rfl
  have b0 : Below w.heap.size w ((w.alloc (.cells ⟨[.string nm, .int .i64 st, .slice A n c]⟩ 25)).alloc (.cells ⟨[.string kb, .string ks]⟩ 27)) := by (repeat' (first | (with_reducible exact Below.refl _ _) | (with_reducible assumption) | (with_reducible refine below_drewN ?_ _) | (with_reducible refine Below.drew ?_) | (with_reducible refine below_alloc ?_ _) | (with_reducible refine Below.alloc ?_ ?_ _) | (with_reducible refine Below.setCell ?_ ?_ _) | (with_reducible refine below_go ?_ (by with_reducible assumption)) | (with_reducible refine below_then (by with_reducible assumption) ?_ ?_) | go_size))
  go_in
  go_wp2_with fail
  refine (spec_l8Good hn (h.up b0) hz hs hnm hst hkb hks).mono ?_; rintro e w1 ⟨rfl, hb1⟩
  rcases h1 : goodK nm st l kb ks
  · have e1 := Lib.hid (show goodF nm st l kb ks t = false by rw [HQ.out, h1]; rfl)
    go_wp2
    go_ret
    rw [e1.out]
    exact ⟨rfl, below_go b0 hb1⟩
  · have e1 := Lib.hid (show goodF nm st l kb ks t = goodT t by rw [HQ.out, h1]; rfl)
    go_wp2_with fail
    refine (spec_l9Good ht).mono ?_; rintro e w' ⟨rfl, rfl⟩
    go_wp2
    go_ret
    rw [e1.out]
    exact ⟨rfl, below_go b0 hb1⟩
set_option maxHeartbeats 2000000 in
set_option maxRecDepth 100000 in
theorem spec_l9Heads {A : Option Addr} {n c st : Nat} {nm : ByteArray} {l : List ByteArray} {kb ks : ByteArray} {t : ByteArray} {w : World} (hn : l.length = n) (h : Strs w A l) (hk : goodK nm (st : Int) l kb ks = true) (hg : goodT t = true) (hcap : n ≤ c) :
    Calls Tryz.prog 178 #[.agg #[.string nm, .int .i64 st, .slice A n c], .agg #[.string kb, .string ks], .string t] w fun e w' => ∃ A' c', e = .returned (.slice A' (t.size + 1) c') ∧ Owned strE 1 9 w' w.heap.size A' (t.size + 1) c' (hdsL st l kb ks t (t.size + 1)) ∧ Below w.heap.size w w' := by
  have b0 : Below w.heap.size w ((w.alloc (.cells ⟨[.string nm, .int .i64 st, .slice A n c]⟩ 25)).alloc (.cells ⟨[.string kb, .string ks]⟩ 27)) := by (repeat' (first | (with_reducible exact Below.refl _ _) | (with_reducible assumption) | (with_reducible refine below_drewN ?_ _) | (with_reducible refine Below.drew ?_) | (with_reducible refine below_alloc ?_ _) | (with_reducible refine Below.alloc ?_ ?_ _) | (with_reducible refine Below.setCell ?_ ?_ _) | (with_reducible refine below_go ?_ (by with_reducible assumption)) | (with_reducible refine below_then (by with_reducible assumption) ?_ ?_) | go_size))
  have K0 := (Blk.at_ w 25 [.string nm, .int .i64 st, .slice A n c] (b := w.heap.size) rfl).alloc (.cells ⟨[.string kb, .string ks]⟩ 27)
  have K1 := Blk.at_ (w.alloc (.cells ⟨[.string nm, .int .i64 st, .slice A n c]⟩ 25)) 27 [.string kb, .string ks] (b := w.heap.size + 1) (by simp)
  obtain ⟨h8, h40, _⟩ := goodK_all hk
  obtain ⟨ht1, ht60, _⟩ := goodT_t hg
  have gb := PlainAid.get_bt t
  go_in
  go_wp2_with fail
  obtain ⟨w1, hw1⟩ : ∃ u, u = ((w.alloc (.cells #[.string nm, .int .i64 st, .slice A n c] 25)).alloc (.cells #[.string kb, .string ks] 27)) := ⟨_, rfl⟩
  rw [← hw1] at b0 K0 K1 ⊢
  clear hw1
  have H0 := Lib.hid (h.up b0)
  have carry : Hid (∀ u : World, Below w1.heap.size w1 u → (u.cell? ⟨w.heap.size, 0, none⟩ = some (.string nm) ∧ u.cell? ⟨w.heap.size, 1, none⟩ = some (.int .i64 st) ∧ u.cell? ⟨w.heap.size, 2, none⟩ = some (.slice A n c)) ∧ u.cell? ⟨w.heap.size + 1, 0, none⟩ = some (.string kb) ∧ u.cell? ⟨w.heap.size + 1, 1, none⟩ = some (.string ks)) := Lib.hid (fun u hu => by
    have L0 := K0.up hu; have L1 := K1.up hu
    exact ⟨⟨by simpa using L0.cell 0, by simpa using L0.cell 1, by simpa using L0.cell 2⟩, by simpa using L1.cell 0, by simpa using L1.cell 1⟩)
  clear h K0 K1
  have PG := Lib.hid (callHd_good hk)
  have HD := Lib.hid (fun k => hdAt_good h8.1 h8.2 l kb ks t k)
  have H1 : Hid (Owned strE 1 9 (w1.alloc (.cells #[.string (roundsS st)] 9)) w1.heap.size (some ⟨w1.heap.size, 0, none⟩) 1 1 (hdsL st l kb ks t 1)) := Lib.hid ⟨strE_len, by simp [hdsL], by simpa [hdsL, hdAt, strE] using World.ownsRow_lit (e := 9) (base := w1.heap.size) (size := 1) w1 #[.string (roundsS st)] 1 (Nat.le_refl _) (by decide) (by simp)⟩
  refine (spec_l1Rounds h8.2).mono ?_; rintro e w' ⟨rfl, rfl⟩
  go_wp2
  go_loopw [7, 8, 9] (fun r v i wr => ∃ (k : Nat) (A' : Option Addr) (m c' : Nat), k ≤ t.size ∧ i = .int .i64 k ∧ r = .string (hdAt st l kb ks t k) ∧ v = .slice A' m c' ∧ m = k + 1 ∧ Owned strE 1 9 wr w1.heap.size A' m c' (hdsL st l kb ks t (k + 1)) ∧ Below w1.heap.size w1 wr) (fun _ _ i _ => t.size - (intOf i).toNat)
  case atStart => exact ⟨0, _, _, _, Nat.zero_le _, rfl, rfl, rfl, rfl, H1.out, by (repeat' (first | (with_reducible exact Below.refl _ _) | (with_reducible assumption) | (with_reducible refine below_drewN ?_ _) | (with_reducible refine Below.drew ?_) | (with_reducible refine below_alloc ?_ _) | (with_reducible refine Below.alloc ?_ ?_ _) | (with_reducible refine Below.setCell ?_ ?_ _) | (with_reducible refine below_go ?_ (by with_reducible assumption)) | (with_reducible refine below_then (by with_reducible assumption) ?_ ?_) | go_size))⟩
  case round =>
    obtain ⟨k, A', m, c', hk1, rfl, rfl, rfl, rfl, ho, hb⟩ := hrel
    have HO := Lib.hid ho
    have hsz := hb.size
    clear ho
    by_cases hlt : k < t.size
    · have p1 := PG.out (letter t k)
      have p2 := HD.out k
      have z1 : (hdAt st l kb ks t k).size ≤ 16777216 := by rw [p2.2]; omega
      have z2 : (callHd st l kb ks (letter t k)).size ≤ 16777216 := by rw [p1.2]; omega
      have hf : fits (hdAt st l kb ks t k) (callHd st l kb ks (letter t k)) := fits_good p1.1 (by rw [p1.2, p2.2])
      have E := Lib.hid (show timesS (hdAt st l kb ks t k) (callHd st l kb ks (letter t k)) = hdAt st l kb ks t (k + 1) from rfl)
      have HT := Lib.hid (hdsL_succ st l kb ks t (k + 1))
      clear p1 p2
      have hwk : IntKind.i64.wrap ((k : Int) + 1) = (k : Int) + 1 := wrap_id (by omega)
      have hb0 := hb
      have hle1 : (k : Int) + 1 ≤ (t.size : Int) := by omega
      have hle2 : (k : Int) ≤ (k : Int) + 1 := by omega
      have hle3 : (0 : Int) ≤ (k : Int) := by omega
      have HB := Lib.hid hb
      go_wp2_with fail
      go_region_held3 (fun u => (u.cell? ⟨w.heap.size, 0, none⟩ = some (.string nm) ∧ u.cell? ⟨w.heap.size, 1, none⟩ = some (.int .i64 st) ∧ u.cell? ⟨w.heap.size, 2, none⟩ = some (.slice A n c)) ∧ u.cell? ⟨w.heap.size + 1, 0, none⟩ = some (.string kb) ∧ u.cell? ⟨w.heap.size + 1, 1, none⟩ = some (.string ks)) (first | exact carry.out _ C2 | exact carry.out _ HB.out | exact carry.out _ HB.out.drew) (first | (go_at_call 118; refine (spec_l1Times z1 z2 hf).mono ?_; rw [E.out]; rintro e w' ⟨rfl, rfl⟩) | (go_at_call 201; refine (spec_l8Head (s := letter t k) hn ((H0.out.below HB.out (Nat.le_refl _)).drew) hk hcap).mono ?_; rintro e w2 ⟨rfl, hbd2⟩; have hb2 := below_of_drew hbd2; have C2 := HB.out.trans (hb2.mono HB.out.size); have HO1 := Lib.hid (HO.out.up hb2); have hsz1 := hb2.size))
      go_wp2_with (first | (at_builtin; go_must ((refine wpList_append_rec Tryz.elStr rfl (.tmp 31) (.tmp 33) rfl rfl (HO1.out.alloc _) (hdAt st l kb ks t (k + 1)) rfl (Box.at_ _ [.string (hdAt st l kb ks t (k + 1))] _ ?_) (strE_one _) ?_ (by decide) ?_ ?_; (focus (first | omega | (simp only [World.size_alloc]; done) | (simp only [World.size_alloc]; omega) | (simp; done) | (simp; omega))); (focus (first | omega | (simp only [World.size_alloc]; done) | (simp only [World.size_alloc]; omega) | (simp; done) | (simp; omega))); (focus (first | omega | (simp only [World.size_alloc]; done) | (simp only [World.size_alloc]; omega) | (simp; done) | (simp; omega))); intro A2 c2 w3 ho3 hg3 hb3))))
      go_roundw
      case rel => exact ⟨k + 1, A2, k + 1 + 1, c2, by omega, by go_num, rfl, by go_num, rfl, by rw [HT.out]; exact ho3, ((HB.out.trans (hb2.mono hsz)).alloc (by omega) _).trans hb3⟩
      case measure => simp [intOf]; omega
    · obtain rfl : k = t.size := by omega
      go_wp2
      go_ret
      exact ⟨_, _, rfl, HO.out.base_le b0.size, below_go b0 hb⟩
set_option maxHeartbeats 2000000 in
set_option maxRecDepth 100000 in
theorem spec_l9Rows {A : Option Addr} {n c st : Nat} {nm : ByteArray} {l : List ByteArray} {kb ks : ByteArray} {t : ByteArray} {w : World} (hn : l.length = n) (h : Strs w A l) (hk : goodK nm (st : Int) l kb ks = true) (hg : goodT t = true) (hcap : n ≤ c) :
    Calls Tryz.prog 203 #[.agg #[.string nm, .int .i64 st, .slice A n c], .agg #[.string kb, .string ks], .string t] w fun e w' => ∃ A' m' c', e = .returned (.slice A' m' c') ∧ m' = t.size * n ∧ Owned strE 1 9 w' w.heap.size A' m' c' (tRows st l kb ks t t.size) ∧ Below w.heap.size w w' := by
  have b0 : Below w.heap.size w ((w.alloc (.cells ⟨[.string nm, .int .i64 st, .slice A n c]⟩ 25)).alloc (.cells ⟨[.string kb, .string ks]⟩ 27)) := by (repeat' (first | (with_reducible exact Below.refl _ _) | (with_reducible assumption) | (with_reducible refine below_drewN ?_ _) | (with_reducible refine Below.drew ?_) | (with_reducible refine below_alloc ?_ _) | (with_reducible refine Below.alloc ?_ ?_ _) | (with_reducible refine Below.setCell ?_ ?_ _) | (with_reducible refine below_go ?_ (by with_reducible assumption)) | (with_reducible refine below_then (by with_reducible assumption) ?_ ?_) | go_size))
  have K0 := (Blk.at_ w 25 [.string nm, .int .i64 st, .slice A n c] (b := w.heap.size) rfl).alloc (.cells ⟨[.string kb, .string ks]⟩ 27)
  have K1 := Blk.at_ (w.alloc (.cells ⟨[.string nm, .int .i64 st, .slice A n c]⟩ 25)) 27 [.string kb, .string ks] (b := w.heap.size + 1) (by simp)
  obtain ⟨h8, h40, hgl, _⟩ := goodK_all hk
  obtain ⟨ht1, ht60, _⟩ := goodT_t hg
  have hn40 : n ≤ 40 := by omega
  have HS := Lib.hid (fun (s' : ByteArray) (hs' : s' ∈ l) => show s'.size ≤ 16777216 from by have := goodChange_small (hgl s' hs'); omega)
  clear hgl
  go_in
  go_wp2_with fail
  obtain ⟨w0, hw0⟩ : ∃ u, u = ((w.alloc (.cells #[.string nm, .int .i64 st, .slice A n c] 25)).alloc (.cells #[.string kb, .string ks] 27)) := ⟨_, rfl⟩
  rw [← hw0] at b0 K0 K1 ⊢
  clear hw0
  have H0 := Lib.hid (h.up b0)
  have carry : Hid (∀ u : World, Below w0.heap.size w0 u → u.cell? ⟨w.heap.size, 2, none⟩ = some (.slice A n c)) := Lib.hid (fun u hu => by
    have L0 := K0.up hu
    simpa using L0.cell 2)
  clear h K0 K1
  refine (spec_l9Heads hn H0.out hk hg hcap).mono ?_; rintro e w1 ⟨A1, c1, rfl, ho1, hb1⟩
  have hle := ho1.cap
  obtain ⟨g, rfl, _⟩ := ho1.at_ (by omega)
  have R1 := Lib.hid ho1.recs
  have HD := Lib.hid (fun k => hdAt_good h8.1 h8.2 l kb ks t k)
  have hcI : (t.size : Int) ≤ (c1 : Int) := by omega
  go_wp2
  go_loopw [7, 20] (fun v i wr => ∃ (k : Nat) (A' : Option Addr) (m c' : Nat), k ≤ t.size ∧ i = .int .i64 k ∧ v = .slice A' m c' ∧ m = k * n ∧ Owned strE 1 9 wr w1.heap.size A' m c' (tRows st l kb ks t k) ∧ Below w1.heap.size w1 wr) (fun _ i _ => t.size - (intOf i).toNat)
  case atStart => exact ⟨0, none, 0, 0, Nat.zero_le _, rfl, rfl, by omega, Owned.nil strE_len _ _ _, Below.refl _ _⟩
  case round =>
    obtain ⟨k, A', m, c', hk1, rfl, rfl, hm, ho, hb⟩ := hrel
    have HO := Lib.hid ho
    have HM := Lib.hid hm
    have hmb : m ≤ 2400 := by rw [hm]; exact Nat.le_trans (Nat.mul_le_mul (show k ≤ 60 by omega) hn40) (by decide)
    have hsz := hb.size
    clear ho hm
    by_cases hlt : k < t.size
    · obtain ⟨b3, o3, y, e3, hbb, hy, hcy⟩ := (R1.out.below hb (Nat.le_refl _)).at_str (k := k) (by rw [hdsL_len]; omega)
      injection e3 with e3
      injection e3 with e4 e5
      subst e4 e5
      rw [hdsL_at (by omega)] at hy
      injection hy with hy
      subst hy
      have ck := carry.out _ (Below.step' hb1 (Nat.le_refl _) hb)
      simp only [Nat.zero_add] at hcy
      have p2 := HD.out k
      have z1 : (hdAt st l kb ks t k).size ≤ 8 := by rw [p2.2]; omega
      have HT := Lib.hid (tRows_succ st l kb ks t k)
      clear p2
      go_wp2_with fail
      refine (spec_l4Lead z1 hn ((H0.out.up hb1).below hb (Nat.le_refl _)) (by omega) HS.out).mono ?_; rintro e w2 ⟨A2, c2, rfl, ho2, hb2⟩
      have HO1 := Lib.hid (HO.out.up hb2)
      have hsz1 := hb2.size
      have hl2 : (rowsL (hdAt st l kb ks t k) l n).length = n := by rw [rowsL_len]
      go_wp2_with (first | (at_builtin; go_must ((refine wpList_append_recs Tryz.elStr strE_one rfl (.tmp 31) (.tmp 32) rfl rfl HO1.out rfl ho2.recs hl2 ?_ (by decide) ?_ ?_; (focus (first | omega | (simp only [World.size_alloc]; done) | (simp only [World.size_alloc]; omega) | (simp; done) | (simp; omega))); (focus (first | omega | (simp only [World.size_alloc]; done) | (simp only [World.size_alloc]; omega) | (simp; done) | (simp; omega))); intro A3 c3 w3 ho3 hg3 hn3))))
      go_roundw
      case rel => exact ⟨k + 1, A3, m + n, c3, by omega, by go_num, by go_num, by rw [HM.out, Nat.succ_mul], by rw [HT.out]; subst hn; exact ho3, (hb.trans (hb2.mono hsz)).trans ((grown_base hg3 (by omega) (fun q hq => (HO.out.range q hq).1)))⟩
      case measure => simp [intOf]; omega
    · obtain rfl : k = t.size := by omega
      go_wp2
      go_ret
      exact ⟨_, _, _, rfl, HM.out, HO.out.base_le (below_go b0 hb1).size, below_go (below_go b0 hb1) hb⟩
set_option maxHeartbeats 1000000 in
theorem spec_TouchRows {A : Option Addr} {n c : Nat} {nm : ByteArray} {st : Int} {l : List ByteArray} {kb ks : ByteArray} {t : ByteArray} {w : World} (hn : l.length = n) (h : Strs w A l) (hz : n ≤ 1048576) (hs : ∀ s ∈ l, s.size ≤ 16777216) (hnm : nm.size ≤ 16777216) (hst : I64 st) (hkb : kb.size ≤ 16777216) (hks : ks.size ≤ 16777216) (hcap : n ≤ c) (ht : t.size ≤ 16777216) :
    Calls Tryz.prog 141 #[.agg #[.string nm, .int .i64 st, .slice A n c], .agg #[.string kb, .string ks], .string t] w fun e w' => ∃ A' m' c', e = .returned (.tuple #[.slice A' m' c', .bool (rowsOk nm st l kb ks t)]) ∧ (rowsOk nm st l kb ks t = true → m' = t.size * n ∧ Owned strE 1 9 w' w.heap.size A' m' c' (tRows st.toNat l kb ks t t.size)) ∧ (rowsOk nm st l kb ks t = false → A' = none ∧ m' = 0 ∧ c' = 0) ∧ Below w.heap.size w w' := by
  have b0 : Below w.heap.size w ((w.alloc (.cells ⟨[.string nm, .int .i64 st, .slice A n c]⟩ 25)).alloc (.cells ⟨[.string kb, .string ks]⟩ 27)) := by (repeat' (first | (with_reducible exact Below.refl _ _) | (with_reducible assumption) | (with_reducible refine below_drewN ?_ _) | (with_reducible refine Below.drew ?_) | (with_reducible refine below_alloc ?_ _) | (with_reducible refine Below.alloc ?_ ?_ _) | (with_reducible refine Below.setCell ?_ ?_ _) | (with_reducible refine below_go ?_ (by with_reducible assumption)) | (with_reducible refine below_then (by with_reducible assumption) ?_ ?_) | go_size))
  have K0 := (Blk.at_ w 25 [.string nm, .int .i64 st, .slice A n c] (b := w.heap.size) rfl).alloc (.cells ⟨[.string kb, .string ks]⟩ 27)
  have K1 := Blk.at_ (w.alloc (.cells ⟨[.string nm, .int .i64 st, .slice A n c]⟩ 25)) 27 [.string kb, .string ks] (b := w.heap.size + 1) (by simp)
  have HQ : Hid (rowsOk nm st l kb ks t = (goodF nm st l kb ks t && decide (t.size * l.length ≤ 800))) := Lib.hid rfl
  go_in
  go_wp2_with fail
  obtain ⟨w0, hw0⟩ : ∃ u, u = ((w.alloc (.cells #[.string nm, .int .i64 st, .slice A n c] 25)).alloc (.cells #[.string kb, .string ks] 27)) := ⟨_, rfl⟩
  rw [← hw0] at b0 K0 K1 ⊢
  clear hw0
  refine (spec_l9Asked hn (h.up b0) hz hs hnm hst hkb hks ht).mono ?_; rintro e w1 ⟨rfl, hb1⟩
  have hB1 := below_go b0 hb1
  rcases hf : goodF nm st l kb ks t
  · have e1 := Lib.hid (show rowsOk nm st l kb ks t = false by rw [HQ.out, hf]; rfl)
    go_wp2
    go_ret2
    rw [e1.out]
    exact ⟨none, 0, 0, rfl, fun h => (by cases h), fun _ => ⟨rfl, rfl, rfl⟩, hB1⟩
  · obtain ⟨hk, hg⟩ := goodF_t' hf
    obtain ⟨m, rfl⟩ : ∃ m : Nat, st = (m : Int) := ⟨st.toNat, by
      have := (goodM_t (goodK_t hk).1).2.1
      omega⟩
    have hn40 : n ≤ 40 := by have := (goodK_all hk).2.1; omega
    have ht60 := (goodT_t hg).2.1
    have hmul : t.size * n ≤ 2400 := Nat.le_trans (Nat.mul_le_mul ht60 hn40) (by decide)
    have hmI : ((t.size * n : Nat) : Int) = (t.size : Int) * (n : Int) := by push_cast; rfl
    have hwr : IntKind.i64.wrap ((t.size : Int) * (n : Int)) = (t.size : Int) * (n : Int) := wrap_id (by omega)
    have HN := Lib.hid hn
    have L0 := K0.up hb1; have L1 := K1.up hb1
    have k0 := L0.cell 0; have k1 := L0.cell 1; have k2 := L0.cell 2; have q0 := L1.cell 0; have q1 := L1.cell 1
    simp only [List.getElem?_cons_zero, List.getElem?_cons_succ] at k0 k1 k2 q0 q1
    by_cases hle : t.size * n ≤ 800
    · have e1 := Lib.hid (show rowsOk nm m l kb ks t = true by rw [HQ.out, hf, HN.out, decide_eq_true hle]; rfl)
      have hI : ¬ (800 : Int) < (t.size : Int) * (n : Int) := by omega
      clear hmI
      go_wp2_with fail
      refine (spec_l9Rows hn (h.up hB1) hk hg hcap).mono ?_; rintro e w2 ⟨A2, m2, c2, rfl, hm2, ho2, hb2⟩
      subst hm2
      go_wp2
      go_ret2
      rw [e1.out]
      exact ⟨_, _, _, rfl, fun _ => ⟨rfl, ho2.base_le hB1.size⟩, fun h => (by cases h), below_go hB1 hb2⟩
    · have e1 := Lib.hid (show rowsOk nm m l kb ks t = false by rw [HQ.out, hf, HN.out, decide_eq_false hle]; rfl)
      have hI : (800 : Int) < (t.size : Int) * (n : Int) := by omega
      clear hmI
      go_wp2
      go_ret2
      rw [e1.out]
      exact ⟨none, 0, 0, rfl, fun h => (by cases h), fun _ => ⟨rfl, rfl, rfl⟩, hB1⟩
end Go.Proofs.YtidolgonmimicaaGreat
/- The rows of a touch, the program's side. -/
namespace Go.Proofs.YtidolgonmimicaaGreat
set_option linter.unusedVariables false
set_option linter.unusedSimpArgs false
open Go.ChangeShapes Go.WideShapes Go.ChangeAt Go.RowKit Go.Deep
theorem rowsL_cut (a : ByteArray) (l : List ByteArray) (n : Nat) : (rowsL a l (n + 1)).take n = rowsL a l n := by
  rw [rowsL_succ, List.take_append_of_le_length (by rw [rowsL_len]; exact Nat.le_refl _), List.take_of_length_le (by rw [rowsL_len]; exact Nat.le_refl _)]
theorem hdsL_cut (st : Nat) (l : List ByteArray) (b s t : ByteArray) (n : Nat) : (hdsL st l b s t (n + 1)).take n = hdsL st l b s t n := by
  rw [hdsL_succ, List.take_append_of_le_length (by rw [hdsL_len]; exact Nat.le_refl _), List.take_of_length_le (by rw [hdsL_len]; exact Nat.le_refl _)]
theorem Recs.front {α : Type} {e : α → List Value} {s : Nat} {w : World} {g : Nat} {l : List α} (h : Recs e s w (some ⟨g, 0, none⟩) l) (n : Nat) (hn : n ≤ l.length) : Recs e s w (some ⟨g, 0, none⟩) (l.take n) := by
  have := h.part 0 n (Nat.zero_le _) hn
  simpa using this
set_option maxHeartbeats 1000000 in
set_option maxRecDepth 100000 in
theorem impl_leadRows {A : Option Addr} {n c : Nat} {nm a : ByteArray} {st : Int} {l : List ByteArray} {w : World} (ha : a.size ≤ 8) (hn : l.length = n) (h : Strs w A l) (hz : n ≤ 1048576) (hs : ∀ s ∈ l, s.size ≤ 16777216) (hg : ∀ s ∈ l, isDash s = true ∨ validD s = true) :
    Calls Tryz.prog 104 #[.agg #[.string nm, .int .i64 st, .slice A n c], .string a] w fun e w' => ∃ A' c', e = .returned (.slice A' n c') ∧ Strs w' A' (rowsL a l n) ∧ Below w.heap.size w w' := by
  have b0 : Below w.heap.size w (w.alloc (.cells ⟨[.string nm, .int .i64 st, .slice A n c]⟩ 25)) := by (repeat' (first | (with_reducible exact Below.refl _ _) | (with_reducible assumption) | (with_reducible refine below_drewN ?_ _) | (with_reducible refine Below.drew ?_) | (with_reducible refine below_alloc ?_ _) | (with_reducible refine Below.alloc ?_ ?_ _) | (with_reducible refine Below.setCell ?_ ?_ _) | (with_reducible refine below_go ?_ (by with_reducible assumption)) | (with_reducible refine below_then (by with_reducible assumption) ?_ ?_) | go_size))
  have K0 := Blk.at_ w 25 [.string nm, .int .i64 st, .slice A n c] (b := w.heap.size) rfl
  have HG := Lib.hid hg
  have HS := Lib.hid hs
  clear hg hs
  go_in
  go_wp2_with fail
  obtain ⟨w0, hw0⟩ : ∃ u, u = (w.alloc (.cells #[.string nm, .int .i64 st, .slice A n c] 25)) := ⟨_, rfl⟩
  rw [← hw0] at b0 K0 ⊢
  clear hw0
  have H0 := Lib.hid (h.up b0)
  have carry : Hid (∀ u : World, Below w0.heap.size w0 u → u.cell? ⟨w.heap.size, 2, none⟩ = some (.slice A n c)) := Lib.hid (fun u hu => by
    have L0 := K0.up hu
    simpa using L0.cell 2)
  clear h K0
  have hwk : IntKind.i64.wrap (n : Int) = (n : Int) := wrap_id (by omega)
  have hle3 : (0 : Int) ≤ (n : Int) := by omega
  go_region_held3 (fun u => u.cell? ⟨w.heap.size, 2, none⟩ = some (.slice A n c)) (first | exact carry.out _ hb1 | exact carry.out _ (Below.refl _ _) | exact carry.out _ (Below.refl _ _).drew) (first | (go_at_call 191; ((refine (impl_rowsUnder ha hn H0.out.drew (by omega) HS.out HG.out).mono ?_); rintro e w1 ⟨A1, c1, rfl, ho, hbd⟩; have hb1 := below_of_drew hbd; have hcp := ho.cap; have hcI : (n : Int) ≤ (c1 : Int) := (by omega); obtain ⟨g, rfl, _⟩ := ho.at_ (by omega))))
  go_wp2
  go_ret
  exact ⟨_, _, rfl, by have q := ho.recs.front n (by rw [rowsL_len]; omega); rw [rowsL_cut] at q; exact q, below_go b0 hb1⟩
set_option maxHeartbeats 1000000 in
set_option maxRecDepth 100000 in
theorem impl_leadsFrom {A : Option Addr} {n c st : Nat} {nm : ByteArray} {l : List ByteArray} {kb ks : ByteArray} {t : ByteArray} {B : Option Addr} {m d : Nat} {w : World} (hn : l.length = n) (h : Strs w A l) (hk : goodK nm (st : Int) l kb ks = true) (hB : Strs w B (hdsL st l kb ks t m)) (hm : m ≤ 60) :
    Calls Tryz.prog 134 #[.agg #[.string nm, .int .i64 st, .slice A n c], .slice B m d] w fun e w' => ∃ A' m' c', e = .returned (.slice A' m' c') ∧ m' = m * n ∧ Owned strE 1 9 w' w.heap.size A' m' c' (tRows st l kb ks t m) ∧ Below w.heap.size w w' := by
  have b0 : Below w.heap.size w (w.alloc (.cells ⟨[.string nm, .int .i64 st, .slice A n c]⟩ 25)) := by (repeat' (first | (with_reducible exact Below.refl _ _) | (with_reducible assumption) | (with_reducible refine below_drewN ?_ _) | (with_reducible refine Below.drew ?_) | (with_reducible refine below_alloc ?_ _) | (with_reducible refine Below.alloc ?_ ?_ _) | (with_reducible refine Below.setCell ?_ ?_ _) | (with_reducible refine below_go ?_ (by with_reducible assumption)) | (with_reducible refine below_then (by with_reducible assumption) ?_ ?_) | go_size))
  have K0 := Blk.at_ w 25 [.string nm, .int .i64 st, .slice A n c] (b := w.heap.size) rfl
  obtain ⟨h8, h40, hgl, _⟩ := goodK_all hk
  have hn40 : n ≤ 40 := by omega
  have HS := Lib.hid (fun (s' : ByteArray) (hs' : s' ∈ l) => show s'.size ≤ 16777216 from by have := goodChange_small (hgl s' hs'); omega)
  have HG := Lib.hid (fun (x : ByteArray) (hx : x ∈ l) => good_valid (hgl x hx))
  clear hgl
  have HD := Lib.hid (fun k => hdAt_good h8.1 h8.2 l kb ks t k)
  go_in
  go_wp2_with fail
  obtain ⟨w1, hw1⟩ : ∃ u, u = (w.alloc (.cells #[.string nm, .int .i64 st, .slice A n c] 25)) := ⟨_, rfl⟩
  have sz1 : w1.heap.size = w.heap.size + 1 := by rw [hw1]; simp
  rw [← hw1] at b0 K0 ⊢
  clear hw1
  have H0 := Lib.hid (h.up b0)
  have HB := Lib.hid (hB.up b0)
  have carry : Hid (∀ u : World, Below w1.heap.size w1 u → u.cell? ⟨w.heap.size, 0, none⟩ = some (.string nm) ∧ u.cell? ⟨w.heap.size, 1, none⟩ = some (.int .i64 st) ∧ u.cell? ⟨w.heap.size, 2, none⟩ = some (.slice A n c)) := Lib.hid (fun u hu => by
    have L0 := K0.up hu
    exact ⟨by simpa using L0.cell 0, by simpa using L0.cell 1, by simpa using L0.cell 2⟩)
  clear h hB K0
  have HE : Hid (Owned strE 1 9 (w1.alloc (.cells #[] 9)) w1.heap.size (some ⟨w.heap.size + 1, 0, none⟩) 0 0 (tRows st l kb ks t 0)) := Lib.hid (by rw [← sz1]; exact Owned.empty (E := 9) strE_len w1 (Nat.le_refl _))
  clear sz1
  go_wp2
  go_loopw [5, 11] (fun v i wr => ∃ (k : Nat) (A' : Option Addr) (q c' : Nat), k ≤ m ∧ i = .int .i64 k ∧ v = .slice A' q c' ∧ q = k * n ∧ Owned strE 1 9 wr w1.heap.size A' q c' (tRows st l kb ks t k) ∧ Below w1.heap.size w1 wr) (fun _ i _ => m - (intOf i).toNat)
  case atStart => exact ⟨0, _, 0, _, Nat.zero_le _, rfl, rfl, by omega, HE.out, by (repeat' (first | (with_reducible exact Below.refl _ _) | (with_reducible assumption) | (with_reducible refine below_drewN ?_ _) | (with_reducible refine Below.drew ?_) | (with_reducible refine below_alloc ?_ _) | (with_reducible refine Below.alloc ?_ ?_ _) | (with_reducible refine Below.setCell ?_ ?_ _) | (with_reducible refine below_go ?_ (by with_reducible assumption)) | (with_reducible refine below_then (by with_reducible assumption) ?_ ?_) | go_size))⟩
  case round =>
    obtain ⟨k, A', q, c', hk1, rfl, rfl, hq, ho, hb⟩ := hrel
    have HO := Lib.hid ho
    have HM := Lib.hid hq
    have hmb : q ≤ 2400 := by rw [hq]; exact Nat.le_trans (Nat.mul_le_mul (show k ≤ 60 by omega) hn40) (by decide)
    have hsz := hb.size
    clear ho hq
    by_cases hlt : k < m
    · obtain ⟨b3, o3, y, rfl, hbb, hy, hcy⟩ := (HB.out.below hb (Nat.le_refl _)).at_str (k := k) (by rw [hdsL_len]; exact hlt)
      rw [hdsL_at hlt] at hy
      injection hy with hy
      subst hy
      obtain ⟨c0, c1, c2⟩ := carry.out _ hb
      have p2 := HD.out k
      have z1 : (hdAt st l kb ks t k).size ≤ 8 := by rw [p2.2]; omega
      have HT := Lib.hid (tRows_succ st l kb ks t k)
      clear p2
      go_wp2_with fail
      refine (impl_leadRows z1 hn (H0.out.below hb (Nat.le_refl _)) (by omega) HS.out HG.out).mono ?_; rintro e w2 ⟨A2, c3, rfl, hr2, hb2⟩
      have HO1 := Lib.hid (HO.out.up hb2)
      have hsz1 := hb2.size
      have hl2 : (rowsL (hdAt st l kb ks t k) l n).length = n := by rw [rowsL_len]
      go_wp2_with (first | (at_builtin; go_must ((refine wpList_append_recs Tryz.elStr strE_one rfl (.tmp 15) (.tmp 18) rfl rfl HO1.out rfl hr2 hl2 ?_ (by decide) ?_ ?_; (focus (first | omega | (simp only [World.size_alloc]; done) | (simp only [World.size_alloc]; omega) | (simp; done) | (simp; omega))); (focus (first | omega | (simp only [World.size_alloc]; done) | (simp only [World.size_alloc]; omega) | (simp; done) | (simp; omega))); intro A3 c4 w3 ho3 hg3 hn3))))
      go_roundw
      case rel => exact ⟨k + 1, A3, q + n, c4, by omega, by go_num, by go_num, by rw [HM.out, Nat.succ_mul], by rw [HT.out]; subst hn; exact ho3, (hb.trans (hb2.mono hsz)).trans ((grown_base hg3 (by omega) (fun z hz => (HO.out.range z hz).1)))⟩
      case measure => simp [intOf]; omega
    · obtain rfl : k = m := by omega
      go_wp2
      go_ret
      exact ⟨_, _, _, rfl, HM.out, HO.out.base_le b0.size, below_go b0 hb⟩
set_option maxHeartbeats 2000000 in
set_option maxRecDepth 100000 in
theorem impl_touchRows {A : Option Addr} {n c st : Nat} {nm : ByteArray} {l : List ByteArray} {kb ks : ByteArray} {t : ByteArray} {w : World} (hn : l.length = n) (h : Strs w A l) (hk : goodK nm (st : Int) l kb ks = true) (hg : goodT t = true) :
    Calls Tryz.prog 143 #[.agg #[.string nm, .int .i64 st, .slice A n c], .agg #[.string kb, .string ks], .string t] w fun e w' => ∃ A' m' c', e = .returned (.tuple #[.slice A' m' c', .bool (decide (t.size * n ≤ 800))]) ∧ (t.size * n ≤ 800 → m' = t.size * n ∧ Owned strE 1 9 w' w.heap.size A' m' c' (tRows st l kb ks t t.size)) ∧ (¬ t.size * n ≤ 800 → A' = none ∧ m' = 0 ∧ c' = 0) ∧ Below w.heap.size w w' := by
  have b0 : Below w.heap.size w ((w.alloc (.cells ⟨[.string nm, .int .i64 st, .slice A n c]⟩ 25)).alloc (.cells ⟨[.string kb, .string ks]⟩ 27)) := by (repeat' (first | (with_reducible exact Below.refl _ _) | (with_reducible assumption) | (with_reducible refine below_drewN ?_ _) | (with_reducible refine Below.drew ?_) | (with_reducible refine below_alloc ?_ _) | (with_reducible refine Below.alloc ?_ ?_ _) | (with_reducible refine Below.setCell ?_ ?_ _) | (with_reducible refine below_go ?_ (by with_reducible assumption)) | (with_reducible refine below_then (by with_reducible assumption) ?_ ?_) | go_size))
  have K0 := (Blk.at_ w 25 [.string nm, .int .i64 st, .slice A n c] (b := w.heap.size) rfl).alloc (.cells ⟨[.string kb, .string ks]⟩ 27)
  have K1 := Blk.at_ (w.alloc (.cells ⟨[.string nm, .int .i64 st, .slice A n c]⟩ 25)) 27 [.string kb, .string ks] (b := w.heap.size + 1) (by simp)
  obtain ⟨h8, h40, _⟩ := goodK_all hk
  obtain ⟨ht1, ht60, _⟩ := goodT_t hg
  have hn40 : n ≤ 40 := by omega
  have hmul : t.size * n ≤ 2400 := Nat.le_trans (Nat.mul_le_mul ht60 hn40) (by decide)
  have hmI : ((t.size * n : Nat) : Int) = (t.size : Int) * (n : Int) := by push_cast; rfl
  have hwr : IntKind.i64.wrap ((t.size : Int) * (n : Int)) = (t.size : Int) * (n : Int) := wrap_id (by omega)
  go_in
  by_cases hle : t.size * n ≤ 800
  · have hI : ¬ (800 : Int) < (t.size : Int) * (n : Int) := by omega
    have ED := Lib.hid (decide_eq_true hle)
    clear hmI
    go_wp2_with fail
    obtain ⟨w0, hw0⟩ : ∃ u, u = ((w.alloc (.cells #[.string nm, .int .i64 st, .slice A n c] 25)).alloc (.cells #[.string kb, .string ks] 27)) := ⟨_, rfl⟩
    rw [← hw0] at b0 K0 K1 ⊢
    clear hw0
    have H0 := Lib.hid (h.up b0)
    have carry : Hid (∀ u : World, Below w0.heap.size w0 u → (u.cell? ⟨w.heap.size, 0, none⟩ = some (.string nm) ∧ u.cell? ⟨w.heap.size, 1, none⟩ = some (.int .i64 st) ∧ u.cell? ⟨w.heap.size, 2, none⟩ = some (.slice A n c)) ∧ u.cell? ⟨w.heap.size + 1, 0, none⟩ = some (.string kb) ∧ u.cell? ⟨w.heap.size + 1, 1, none⟩ = some (.string ks)) := Lib.hid (fun u hu => by
      have L0 := K0.up hu; have L1 := K1.up hu
      exact ⟨⟨by simpa using L0.cell 0, by simpa using L0.cell 1, by simpa using L0.cell 2⟩, by simpa using L1.cell 0, by simpa using L1.cell 1⟩)
    clear h K0 K1
    have hwk : IntKind.i64.wrap (t.size : Int) = (t.size : Int) := wrap_id (by omega)
    have hle3 : (0 : Int) ≤ (t.size : Int) := by omega
    go_region_held3 (fun u => (u.cell? ⟨w.heap.size, 0, none⟩ = some (.string nm) ∧ u.cell? ⟨w.heap.size, 1, none⟩ = some (.int .i64 st) ∧ u.cell? ⟨w.heap.size, 2, none⟩ = some (.slice A n c)) ∧ u.cell? ⟨w.heap.size + 1, 0, none⟩ = some (.string kb) ∧ u.cell? ⟨w.heap.size + 1, 1, none⟩ = some (.string ks)) (first | exact carry.out _ C2 | exact carry.out _ hb1 | exact carry.out _ (Below.refl _ _) | exact carry.out _ (Below.refl _ _).drew) (first | (go_at_call 134; ((refine (impl_leadsFrom hn (H0.out.up hb1) hk hR1 ht60).mono ?_); rintro e w2 ⟨A2, m2, c2, rfl, hm2, ho2, hb2⟩; have C2 := Below.step' hb1 (Nat.le_refl _) hb2)) | (go_at_call 131; ((refine (impl_heads hn H0.out.drew hk hg).mono ?_); rintro e w1 ⟨A1, c1, rfl, ho, hbd⟩; have hb1 := below_of_drew hbd; have hcp := ho.cap; have hcI : (t.size : Int) ≤ (c1 : Int) := (by omega); obtain ⟨g, rfl, _⟩ := ho.at_ (by omega); have hR1 : Strs w1 (some ⟨g, 0, none⟩) (hdsL st l kb ks t t.size) := (by have q := ho.recs.front t.size (by rw [hdsL_len]; omega); rw [hdsL_cut] at q; exact q))))
    subst hm2
    go_wp2
    go_ret2
    rw [ED.out]
    exact ⟨_, _, _, rfl, fun _ => ⟨rfl, ho2.base_le (below_go b0 hb1).size⟩, fun hc => absurd hle hc, below_go (below_go b0 hb1) hb2⟩
  · have hI : (800 : Int) < (t.size : Int) * (n : Int) := by omega
    have ED := Lib.hid (decide_eq_false hle)
    clear hmI
    go_wp2
    go_ret2
    rw [ED.out]
    exact ⟨none, 0, 0, rfl, fun hc => absurd hc hle, fun _ => ⟨rfl, rfl, rfl⟩, b0⟩
set_option maxHeartbeats 1000000 in
theorem impl_TouchRows {A : Option Addr} {n c : Nat} {nm : ByteArray} {st : Int} {l : List ByteArray} {kb ks : ByteArray} {t : ByteArray} {w : World} (hn : l.length = n) (h : Strs w A l) (hz : n ≤ 1048576) (hs : ∀ s ∈ l, s.size ≤ 16777216) (hnm : nm.size ≤ 16777216) (hst : I64 st) (hkb : kb.size ≤ 16777216) (hks : ks.size ≤ 16777216) (ht : t.size ≤ 16777216) :
    Calls Tryz.prog 52 #[.agg #[.string nm, .int .i64 st, .slice A n c], .agg #[.string kb, .string ks], .string t] w fun e w' => ∃ A' m' c', e = .returned (.tuple #[.slice A' m' c', .bool (rowsOk nm st l kb ks t)]) ∧ (rowsOk nm st l kb ks t = true → m' = t.size * n ∧ Owned strE 1 9 w' w.heap.size A' m' c' (tRows st.toNat l kb ks t t.size)) ∧ (rowsOk nm st l kb ks t = false → A' = none ∧ m' = 0 ∧ c' = 0) ∧ Below w.heap.size w w' := by
  have b0 : Below w.heap.size w ((w.alloc (.cells ⟨[.string nm, .int .i64 st, .slice A n c]⟩ 25)).alloc (.cells ⟨[.string kb, .string ks]⟩ 27)) := by (repeat' (first | (with_reducible exact Below.refl _ _) | (with_reducible assumption) | (with_reducible refine below_drewN ?_ _) | (with_reducible refine Below.drew ?_) | (with_reducible refine below_alloc ?_ _) | (with_reducible refine Below.alloc ?_ ?_ _) | (with_reducible refine Below.setCell ?_ ?_ _) | (with_reducible refine below_go ?_ (by with_reducible assumption)) | (with_reducible refine below_then (by with_reducible assumption) ?_ ?_) | go_size))
  have K0 := (Blk.at_ w 25 [.string nm, .int .i64 st, .slice A n c] (b := w.heap.size) rfl).alloc (.cells ⟨[.string kb, .string ks]⟩ 27)
  have K1 := Blk.at_ (w.alloc (.cells ⟨[.string nm, .int .i64 st, .slice A n c]⟩ 25)) 27 [.string kb, .string ks] (b := w.heap.size + 1) (by simp)
  have HQ : Hid (rowsOk nm st l kb ks t = (goodF nm st l kb ks t && decide (t.size * l.length ≤ 800))) := Lib.hid rfl
  go_in
  go_wp2_with fail
  obtain ⟨w0, hw0⟩ : ∃ u, u = ((w.alloc (.cells #[.string nm, .int .i64 st, .slice A n c] 25)).alloc (.cells #[.string kb, .string ks] 27)) := ⟨_, rfl⟩
  rw [← hw0] at b0 K0 K1 ⊢
  clear hw0
  refine (impl_goodFor hn (h.up b0) hz hs hnm hst hkb hks ht).mono ?_; rintro e w1 ⟨rfl, hb1⟩
  have hB1 := below_go b0 hb1
  rcases hf : goodF nm st l kb ks t
  · have e1 := Lib.hid (show rowsOk nm st l kb ks t = false by rw [HQ.out, hf]; rfl)
    go_wp2
    go_ret2
    rw [e1.out]
    exact ⟨none, 0, 0, rfl, fun h => (by cases h), fun _ => ⟨rfl, rfl, rfl⟩, hB1⟩
  · obtain ⟨hk, hg⟩ := goodF_t' hf
    obtain ⟨m, rfl⟩ : ∃ m : Nat, st = (m : Int) := ⟨st.toNat, by
      have := (goodM_t (goodK_t hk).1).2.1
      omega⟩
    have L0 := K0.up hb1; have L1 := K1.up hb1
    have k0 := L0.cell 0; have k1 := L0.cell 1; have k2 := L0.cell 2; have q0 := L1.cell 0; have q1 := L1.cell 1
    simp only [List.getElem?_cons_zero, List.getElem?_cons_succ] at k0 k1 k2 q0 q1
    have e1 := Lib.hid (show rowsOk nm m l kb ks t = decide (t.size * n ≤ 800) by rw [HQ.out, hf, hn]; rfl)
    go_wp2_with fail
    refine (impl_touchRows hn (h.up hB1) hk hg).mono ?_; rintro e w2 ⟨A2, m2, c2, rfl, hy2, hn2, hb2⟩
    have HY := Lib.hid hy2
    have HN := Lib.hid hn2
    clear hy2 hn2
    go_wp2
    go_ret2
    rw [e1.out]
    refine ⟨_, _, _, rfl, fun hc => ?_, fun hc => HN.out (of_decide_eq_false hc), below_go hB1 hb2⟩
    obtain ⟨y1, y2⟩ := HY.out (of_decide_eq_true hc)
    exact ⟨y1, y2.base_le hB1.size⟩
end Go.Proofs.YtidolgonmimicaaGreat
/- A map that the call has made, exactly: a plain partial function of the key, and how many entries it has. -/
namespace Go.Proofs.YtidolgonmimicaaGreat
set_option linter.unusedVariables false
set_option linter.unusedSimpArgs false
open Go.ChangeShapes Go.WideShapes Go.ChangeAt Go.RowKit Go.Deep
open Go.Maps (Keyed)

/-- Block b is a map of m entries: f, key by key. -/
def MapX {α : Type} (en : α → Value) (li : α → Lit) (P : Program) (w : World) (k e : TypeId) (b m : Nat) (f : Value → Option α) : Prop :=
  ∃ D : DataW Unit, w.ownsMap P k (plainElem P e) b m D ∧ Maps.size D = m ∧ ∀ key kl, keyOf P k key = some kl → (f key = none → Maps.has D kl = false ∧ ∀ z, D.atKey kl z = z) ∧ ∀ x, f key = some x → Maps.has D kl = true ∧ ∀ z, D.atKey kl z = .lit (li x)
section
variable {α : Type} {en : α → Value} {li : α → Lit} {P : Program} {w w' : World} {k e : TypeId} {b m : Nat} {f : Value → Option α}
theorem MapX.made (en : α → Value) (li : α → Lit) (P : Program) (w : World) (k e : TypeId) : MapX en li P (w.alloc (.map #[] 0)) k e w.heap.size 0 (fun _ => none) :=
  ⟨.map [], World.ownsMap_made w P k _, rfl, fun key kl _ => ⟨fun _ => ⟨rfl, fun _ => rfl⟩, fun x hx => by cases hx⟩⟩
theorem MapX.made_at (en : α → Value) (li : α → Lit) (P : Program) (w : World) (k e : TypeId) {b : Nat} (h : b = w.heap.size) : MapX en li P (w.alloc (.map #[] 0)) k e b 0 (fun _ => none) := by
  subst h
  exact MapX.made en li P w k e
theorem MapX.lt (h : MapX en li P w k e b m f) : b < w.heap.size := by
  obtain ⟨D, h1, _⟩ := h
  exact h1.lt
theorem MapX.kept {row : Option Nat} (h : MapX en li P w k e b m f) (hg : w.grownBy w' row) (hne : some b ≠ row) : MapX en li P w' k e b m f := by
  obtain ⟨D, h1, h2⟩ := h
  exact ⟨D, h1.kept hg hne, h2⟩
theorem MapX.up (h : MapX en li P w k e b m f) (hb : Below w.heap.size w w') : MapX en li P w' k e b m f := h.kept (grown_of_below hb) (by simp)
theorem MapX.alloc (h : MapX en li P w k e b m f) (o : Obj) : MapX en li P (w.alloc o) k e b m f := h.up ((Below.refl _ _).alloc (Nat.le_refl _) o)
theorem MapX.drew (h : MapX en li P w k e b m f) : MapX en li P w.drew k e b m f := h.up (Below.refl _ _).drew
theorem MapX.as {m' : Nat} {f' : Value → Option α} (h : MapX en li P w k e b m f) (hm : m = m') (hf : ∀ q, f q = f' q) : MapX en li P w k e b m' f' := by
  have e1 : f = f' := funext hf
  subst hm e1
  exact h
theorem MapX.look {t : TypeId} {z : α} (h : MapX en li P w k e b m f) (K : Keyed P k) (ht : P.underlying t = some (.map k e)) (hz : (zeroValue e).run P w = .ok (en z) w) (hzd : plainElem (H := Unit) P e (en z) = some (.lit (li z), [])) (hin : ∀ v x ps, plainElem (H := Unit) P e v = some (.lit (li x), ps) → v = en x)
    {key : Value} {kl : Lit} (hkey : keyOf P k key = some kl) : (Instr.lookup t (.map (some b)) key false).run P w = .ok (en ((f key).getD z)) w := by
  obtain ⟨D, h1, _, h2⟩ := h
  obtain ⟨v, ps, hrun, hv⟩ := h1.lookup K ht hz hzd hkey
  obtain ⟨a1, a2⟩ := h2 key kl hkey
  rcases hf : f key with _ | x
  · rw [(a1 hf).2] at hv
    rw [hrun, hin _ _ _ hv]; rfl
  · rw [(a2 x hf).2] at hv
    rw [hrun, hin _ _ _ hv]; rfl
theorem MapX.look_ok {t : TypeId} {z : α} (h : MapX en li P w k e b m f) (K : Keyed P k) (ht : P.underlying t = some (.map k e)) (hz : (zeroValue e).run P w = .ok (en z) w) (hzd : plainElem (H := Unit) P e (en z) = some (.lit (li z), [])) (hin : ∀ v x ps, plainElem (H := Unit) P e v = some (.lit (li x), ps) → v = en x)
    {key : Value} {kl : Lit} (hkey : keyOf P k key = some kl) : (Instr.lookup t (.map (some b)) key true).run P w = .ok (.tuple #[en ((f key).getD z), .bool (f key).isSome]) w := by
  obtain ⟨D, h1, _, h2⟩ := h
  obtain ⟨v, ps, hrun, hv⟩ := h1.look_ok K ht hz hzd hkey
  obtain ⟨a1, a2⟩ := h2 key kl hkey
  rcases hf : f key with _ | x
  · rw [(a1 hf).2] at hv
    rw [hrun, hin _ _ _ hv, (a1 hf).1]; rfl
  · rw [(a2 x hf).2] at hv
    rw [hrun, hin _ _ _ hv, (a2 x hf).1]; rfl
theorem MapX.len {t : TypeId} (h : MapX en li P w k e b m f) (ht : P.underlying t = some (.map k e)) (ty : TypeId) : (Builtin.len_ #[t] ty #[.map (some b)]).run P w = .ok (.int .i64 m) w := by
  obtain ⟨D, h1, h3, _⟩ := h
  rw [h1.len ht ty, h3]
theorem ownsMap_tight2 {H : Type} {R : Value → Option (DataW H × List MemPlace)} {n : Nat} {D : DataW H} (h : w.ownsMap P k R b n D) : w.ownsMap P k R b (Maps.size D) D := by
  have hm := h.isMap
  cases D with
  | map l => exact ownsMap_tight h (Nat.le_of_eq rfl)
  | _ => exact absurd hm (by simp [Maps.IsMap])
theorem MapX.put {t : TypeId} (K : Keyed P k) (ht : P.underlying t = some (.map k e)) (h : MapX en li P w k e b m f) (hn : m ≤ 16777216) {key : Value} {x : α}
    {kl : Lit} (hkey : keyOf P k key = some kl) (hpe : plainElem (H := Unit) P e (en x) = some (.lit (li x), [])) : ∃ w', (Instr.mapUpdate t (.map (some b)) key (en x)).run P w = .ok () w' ∧ (∀ (m' : Nat) (g : Value → Option α), m' = (if (f key).isSome then m else m + 1) → g key = some x → (∀ q, q ≠ key → g q = f q) → MapX en li P w' k e b m' g) ∧ w.grownBy w' (some b) := by
  obtain ⟨D, h1, h3, h2⟩ := h
  obtain ⟨w', hrun, hown, hg⟩ := h1.update K ht (by unfold maxLen; omega) hkey hpe
  refine ⟨w', hrun, fun m' g hm' g1 g2 => ?_, hg⟩
  have e0 : Maps.size (D.put kl (.lit (li x))) = m' := by
    rw [Maps.size_put (h1.tidy K), h3, hm']
    obtain ⟨a1, a2⟩ := h2 key kl hkey
    rcases hf : f key with _ | y
    · rw [(a1 hf).1]; simp
    · rw [(a2 y hf).1]; simp
  refine ⟨_, e0 ▸ ownsMap_tight2 hown, e0, fun key' kl' hk' => ?_⟩
  by_cases ek : kl' = kl
  · subst ek
    have e1 : key' = key := K.inj hk' hkey
    subst e1
    rw [g1]
    refine ⟨fun q => (by cases q), fun y hy => ?_⟩
    injection hy with hy
    subst hy
    exact ⟨Maps.has_put_same h1.isMap (K.key hkey) _, fun z => Maps.atKey_put_same h1.isMap (K.key hkey) _ _⟩
  · have e1 : key' ≠ key := fun e2 => ek (by rw [e2, hkey] at hk'; injection hk' with hk'; exact hk'.symm)
    rw [g2 _ e1, Maps.has_put_other ek]
    obtain ⟨a1, a2⟩ := h2 key' kl' hk'
    exact ⟨fun q => ⟨(a1 q).1, fun z => by rw [Maps.atKey_put_other ek]; exact (a1 q).2 z⟩, fun y q => ⟨(a2 y q).1, fun z => by rw [Maps.atKey_put_other ek]; exact (a2 y q).2 z⟩⟩
theorem MapX.drop {t : TypeId} (K : Keyed P k) (ht : P.underlying t = some (.map k e)) (h : MapX en li P w k e b m f) {key : Value}
    {kl : Lit} (hkey : keyOf P k key = some kl) (ty : TypeId) : ∃ w', (Builtin.delete_ #[t, k] ty #[.map (some b), key]).run P w = .ok (.tuple #[]) w' ∧ (∀ (m' : Nat) (g : Value → Option α), m' + (if (f key).isSome then 1 else 0) = m → g key = none → (∀ q, q ≠ key → g q = f q) → MapX en li P w' k e b m' g) ∧ w.grownBy w' (some b) := by
  obtain ⟨D, h1, h3, h2⟩ := h
  obtain ⟨w', hrun, hown, hg⟩ := h1.drop K ht hkey ty
  refine ⟨w', hrun, fun m' g hm' g1 g2 => ?_, hg.grown⟩
  have e0 : Maps.size (D.del kl) = m' := by
    have e9 := Maps.size_del (k := kl) (h1.tidy K)
    rw [h3, ← hm'] at e9
    obtain ⟨a1, a2⟩ := h2 key kl hkey
    rcases hf : f key with _ | y
    · rw [(a1 hf).1, hf] at e9; simp at e9; omega
    · rw [(a2 y hf).1, hf] at e9; simp at e9; omega
  refine ⟨_, e0 ▸ ownsMap_tight2 hown, e0, fun key' kl' hk' => ?_⟩
  by_cases ek : kl' = kl
  · subst ek
    have e1 : key' = key := K.inj hk' hkey
    subst e1
    rw [g1]
    exact ⟨fun _ => ⟨Maps.has_del_same, fun z => Maps.atKey_del_same _⟩, fun y hy => (by cases hy)⟩
  · have e1 : key' ≠ key := fun e2 => ek (by rw [e2, hkey] at hk'; injection hk' with hk'; exact hk'.symm)
    rw [g2 _ e1, Maps.has_del_other ek]
    obtain ⟨a1, a2⟩ := h2 key' kl' hk'
    exact ⟨fun q => ⟨(a1 q).1, fun z => by rw [Maps.atKey_del_other ek]; exact (a1 q).2 z⟩, fun y q => ⟨(a2 y q).1, fun z => by rw [Maps.atKey_del_other ek]; exact (a2 y q).2 z⟩⟩
end
section
variable {α : Type} {en : α → Value} {li : α → Lit} {P : Program} {ops : Array Oper} {rest : List Oper} {o : Oper} {a : Act} {Q : Exit → Act → World → Prop} {W : World} {k e : TypeId} {b n : Nat} {f : Value → Option α}
theorem wp_mapx_put {K' : Act → World → Prop} (M X V : Operand) (t : TypeId) (hop : o.op = Op.mapUpdate t M X V) (K : Keyed P k) (ht : P.underlying t = some (.map k e)) (hm : a.eval M = .map (some b)) (h : MapX en li P W k e b n f) (hn : n ≤ 16777216) {key : Value} (hx : a.eval X = key) {x : α} (hv : a.eval V = en x)
    {kl : Lit} (hkey : keyOf P k key = some kl) (hpe : plainElem (H := Unit) P e (en x) = some (.lit (li x), [])) (hK : ∀ w', (∀ (m' : Nat) (g : Value → Option α), m' = (if (f key).isSome then n else n + 1) → g key = some x → (∀ q, q ≠ key → g q = f q) → MapX en li P w' k e b m' g) → W.grownBy w' (some b) → K' (a.put o.dst undef) w') : o.wp P a W K' Q := by
  obtain ⟨w', hrun, r1, r2⟩ := h.put K ht hn hkey hpe
  unfold Oper.wp
  simp [execOp, hop, hm, hx, hv, hrun, Result.andThen]
  exact hK w' r1 r2
theorem wpList_mapx_put (hgd : o.guard = none) (M X V : Operand) (t : TypeId) (hop : o.op = Op.mapUpdate t M X V) (K : Keyed P k) (ht : P.underlying t = some (.map k e)) (hm : a.eval M = .map (some b)) (h : MapX en li P W k e b n f) (hn : n ≤ 16777216) {key : Value} (hx : a.eval X = key) {x : α} (hv : a.eval V = en x)
    {kl : Lit} (hkey : keyOf P k key = some kl) (hpe : plainElem (H := Unit) P e (en x) = some (.lit (li x), [])) (hK : ∀ w', (∀ (m' : Nat) (g : Value → Option α), m' = (if (f key).isSome then n else n + 1) → g key = some x → (∀ q, q ≠ key → g q = f q) → MapX en li P w' k e b m' g) → W.grownBy w' (some b) → wpList P ops Q rest (a.put o.dst undef) w') : wpList P ops Q (o :: rest) a W :=
  wpList_plain hgd fun K' hK' => wp_mapx_put M X V t hop K ht hm h hn hx hv hkey hpe fun w' r1 r2 => hK' _ _ (hK w' r1 r2)
theorem wpList_mapx_drop (hgd : o.guard = none) (M X : Operand) (t : TypeId) (hop : o.op = Op.call { callee := Callee.builtin Builtin.delete, args := #[M, X], argTypes := #[t, k] }) (K : Keyed P k) (ht : P.underlying t = some (.map k e)) (hm : a.eval M = .map (some b)) (h : MapX en li P W k e b n f) {key : Value} (hx : a.eval X = key)
    {kl : Lit} (hkey : keyOf P k key = some kl) (hK : ∀ w', (∀ (m' : Nat) (g : Value → Option α), m' + (if (f key).isSome then 1 else 0) = n → g key = none → (∀ q, q ≠ key → g q = f q) → MapX en li P w' k e b m' g) → W.grownBy w' (some b) → wpList P ops Q rest (a.put o.dst (.tuple #[])) w') : wpList P ops Q (o :: rest) a W := by
  refine wpList_plain hgd fun K' hK' => ?_
  obtain ⟨w', hrun, r1, r2⟩ := h.drop K ht hkey o.type
  unfold Oper.wp
  simp [execOp, hop, resolve, invoke, builtin, hm, hx, hrun, Result.andThen]
  exact hK' _ _ (hK w' r1 r2)
end
/-! bools -/
def bLi (x : Bool) : Lit := .bool x
def bEn (x : Bool) : Value := .bool x
theorem bLi_pe {P : Program} {e : TypeId} (he : P.underlying e = some .bool) (x : Bool) : plainElem (H := Unit) P e (bEn x) = some (.lit (bLi x), []) := plainElem_bool he x
theorem bLi_in {P : Program} {e : TypeId} (he : P.underlying e = some .bool) (v : Value) (x : Bool) (ps : List MemPlace) (h : plainElem (H := Unit) P e v = some (.lit (bLi x), ps)) : v = bEn x := plainElem_bool_inv he h
end Go.Proofs.YtidolgonmimicaaGreat
/- A set of strings that the call has made, exactly: its keys can be gone through, in whatever order. -/
namespace Go.Proofs.YtidolgonmimicaaGreat
set_option linter.unusedVariables false
set_option linter.unusedSimpArgs false
open Go.ChangeShapes Go.WideShapes Go.ChangeAt Go.RowKit Go.Deep
open Go.Maps (Keyed string_keyed)
open Go.WideMaps (keyOf_string_mk)
/-- What a set of strings reads as. -/
def SetD (D : DataW Unit) (S : List ByteArray) : Prop := ∀ s : ByteArray, s.size ≤ maxLen → Maps.has D (sLi s) = inL S s ∧ (inL S s = true → ∀ z, D.atKey (sLi s) z = .lit (.bool true)) ∧ (inL S s = false → ∀ z, D.atKey (sLi s) z = z)
/-- Block b is a map that holds true at the strings of S and has no other entry. -/
def SetX (P : Program) (w : World) (k e : TypeId) (b : Nat) (S : List ByteArray) : Prop :=
  ∃ (D : DataW Unit) (m : Nat), w.ownsMap P k (plainElem P e) b m D ∧ m ≤ S.length ∧ Maps.size D = m ∧ SetD D S
theorem sLi_inj {s t : ByteArray} (h : sLi s = sLi t) : s = t := by
  injection h with h
  exact ba_ext h
theorem inL_snoc (S : List ByteArray) (x s : ByteArray) : inL (S ++ [x]) s = (inL S s || decide (x = s)) := by simp [inL, List.any_append]
section
variable {P : Program} {w w' : World} {k e : TypeId} {b n : Nat} {S : List ByteArray}
theorem SetX.made (P : Program) (w : World) (k e : TypeId) : SetX P (w.alloc (.map #[] 0)) k e w.heap.size [] :=
  ⟨.map [], 0, World.ownsMap_made w P k _, Nat.le_refl _, rfl, fun s _ => ⟨rfl, fun q => (by cases q), fun _ _ => rfl⟩⟩
theorem SetX.made_at (P : Program) (w : World) (k e : TypeId) {b : Nat} (h : b = w.heap.size) : SetX P (w.alloc (.map #[] 0)) k e b [] := by
  subst h
  exact SetX.made P w k e
theorem SetX.lt (h : SetX P w k e b S) : b < w.heap.size := by
  obtain ⟨D, m, h1, _⟩ := h
  exact h1.lt
theorem SetX.kept {row : Option Nat} (h : SetX P w k e b S) (hg : w.grownBy w' row) (hne : some b ≠ row) : SetX P w' k e b S := by
  obtain ⟨D, m, h1, h2⟩ := h
  exact ⟨D, m, h1.kept hg hne, h2⟩
theorem SetX.up (h : SetX P w k e b S) (hb : Below w.heap.size w w') : SetX P w' k e b S := h.kept (grown_of_below hb) (by simp)
theorem SetX.alloc (h : SetX P w k e b S) (o : Obj) : SetX P (w.alloc o) k e b S := h.up ((Below.refl _ _).alloc (Nat.le_refl _) o)
theorem SetX.drew (h : SetX P w k e b S) : SetX P w.drew k e b S := h.up (Below.refl _ _).drew
theorem SetX.look {t : TypeId} (h : SetX P w k e b S) (K : Keyed P k) (ht : P.underlying t = some (.map k e)) (hk : P.underlying k = some .string) (he : P.underlying e = some .bool) (hz : (zeroValue e).run P w = .ok (.bool false) w) {s : ByteArray} (hs : s.size ≤ 16777216) :
    (Instr.lookup t (.map (some b)) (.string s) false).run P w = .ok (.bool (inL S s)) w := by
  obtain ⟨D, m, h1, _, _, h2⟩ := h
  have hm : s.size ≤ maxLen := by unfold maxLen; omega
  obtain ⟨v, ps, hrun, hv⟩ := h1.lookup K ht hz (plainElem_bool he false) (keyOf_string_mk hk hm)
  obtain ⟨_, a1, a2⟩ := h2 s hm
  rcases hi : inL S s
  · rw [show (Lit.string s.data.toList) = sLi s from rfl, a2 hi] at hv
    rw [hrun, plainElem_bool_inv he hv]
  · rw [show (Lit.string s.data.toList) = sLi s from rfl, a1 hi] at hv
    rw [hrun, plainElem_bool_inv he hv]
theorem SetX.add {t : TypeId} (K : Keyed P k) (ht : P.underlying t = some (.map k e)) (hk : P.underlying k = some .string) (he : P.underlying e = some .bool) (h : SetX P w k e b S) (hn : S.length ≤ 16777216) {s : ByteArray} (hs : s.size ≤ 16777216) :
    ∃ w', (Instr.mapUpdate t (.map (some b)) (.string s) (.bool true)).run P w = .ok () w' ∧ SetX P w' k e b (S ++ [s]) ∧ w.grownBy w' (some b) := by
  obtain ⟨D, m, h1, hmS, h3, h2⟩ := h
  have hm : s.size ≤ maxLen := by unfold maxLen; omega
  have hkey : keyOf P k (.string s) = some (sLi s) := keyOf_string_mk hk hm
  obtain ⟨w', hrun, hown, hg⟩ := h1.update K ht (by unfold maxLen; omega) hkey (plainElem_bool he true)
  have e0 : Maps.size (D.put (sLi s) (.lit (.bool true))) ≤ S.length + 1 := by
    rw [Maps.size_put (h1.tidy K), h3]
    split <;> omega
  refine ⟨w', hrun, ⟨_, _, ownsMap_tight2 hown, by rw [List.length_append]; exact e0, rfl, fun q hq => ?_⟩, hg⟩
  rw [inL_snoc]
  by_cases ek : s = q
  · subst ek
    refine ⟨?_, fun _ z => Maps.atKey_put_same h1.isMap (K.key hkey) _ _, fun hf => ?_⟩
    · rw [Maps.has_put_same h1.isMap (K.key hkey)]; simp
    · simp at hf
  · have e1 : sLi q ≠ sLi s := fun e2 => ek (sLi_inj e2).symm
    obtain ⟨a0, a1, a2⟩ := h2 q hq
    rw [Maps.has_put_other e1, decide_eq_false ek, Bool.or_false]
    exact ⟨a0, fun hi z => by rw [Maps.atKey_put_other e1]; exact a1 hi z, fun hi z => by rw [Maps.atKey_put_other e1]; exact a2 hi z⟩
/-- What has been gone through, at the end: every key once. -/
theorem SetD.keys {D : DataW Unit} {K : List ByteArray} {left : Lit → Bool} (hD : SetD D S) (hown : w.ownsMap P k (plainElem P e) b n D) (KS : Keyed P k) (hk : P.underlying k = some .string) (hC : Collected D left (K.map fun s => s.data.toList)) (hl : ∀ kl, left kl = false) (hS : ∀ s ∈ S, s.size ≤ 16777216) :
    K.Nodup ∧ ∀ x, x ∈ K ↔ x ∈ S := by
  have hin : ∀ x : ByteArray, x ∈ K ↔ x.data.toList ∈ K.map fun s => s.data.toList := fun x => ⟨fun h => List.mem_map.2 ⟨x, h, rfl⟩, fun h => by
    obtain ⟨y, hy, ey⟩ := List.mem_map.1 h
    rw [ba_ext ey] at hy; exact hy⟩
  refine ⟨(List.pairwise_map.1 hC.1).imp fun h e => h (by rw [e]), fun x => ?_⟩
  rw [hin, hC.2, hl]
  constructor
  · rintro ⟨hh, _⟩
    have hx : x.data.toList ∈ K.map fun s => s.data.toList := (hC.2 _).2 ⟨hh, hl _⟩
    have hz := strKeys_le hown hk _ ((hC.perm hown KS hk hl).mem_iff.1 hx)
    have := (hD x (by simpa using hz)).1
    rw [show sLi x = Lit.string x.data.toList from rfl, hh] at this
    exact inL_iff.1 this.symm
  · intro h
    have hz := hS x h
    have := (hD x (by unfold maxLen; omega)).1
    rw [inL_iff.2 h] at this
    exact ⟨this, rfl⟩
end
theorem wpList_setx_add {P : Program} {ops : Array Oper} {rest : List Oper} {o : Oper} {a : Act} {Q : Exit → Act → World → Prop} {W : World} {k e : TypeId} {b : Nat} {S : List ByteArray} (hgd : o.guard = none) (M X V : Operand) (t : TypeId) (hop : o.op = Op.mapUpdate t M X V) (K : Keyed P k) (ht : P.underlying t = some (.map k e)) (hk : P.underlying k = some .string) (he : P.underlying e = some .bool) (hm : a.eval M = .map (some b)) (h : SetX P W k e b S) (hn : S.length ≤ 16777216) {s : ByteArray} (hx : a.eval X = .string s) (hv : a.eval V = .bool true) (hs : s.size ≤ 16777216)
    (hK : ∀ w', SetX P w' k e b (S ++ [s]) → W.grownBy w' (some b) → wpList P ops Q rest (a.put o.dst undef) w') : wpList P ops Q (o :: rest) a W :=
  wpList_plain hgd fun K' hK' => by
    obtain ⟨w', hrun, r1, r2⟩ := h.add K ht hk he hn hs
    unfold Oper.wp
    simp [execOp, hop, hm, hx, hv, hrun, Result.andThen]
    exact hK' _ _ (hK w' r1 r2)
end Go.Proofs.YtidolgonmimicaaGreat
/-
  DERIVED: THE SHELF's CONTRACTS AT THIS DUMP, IN PLAIN WORDS (tools/lay-plain.mjs out of 'YtidolgonmimicaaGreatShelf.lean', which tools/lay-shelf.mjs wrote): THE SAME DECLARATIONS UNDER THE SAME NAMES: 'import', 'namespace', 'open', 'def', 'theorem' AND NOTHING ELSE: no command of the shelf's: FOR A HAND-IN. Each laying: the table of numbers ('.._ren') and one theorem, a field a fact of the dump's own or the kernel's comparison; each contract: ONE APPLICATION.
-/
namespace Go.Proofs
open Go.Shelf
def Tryz.lays190_ren : Go.Shelf.Ren := ⟨fun | 190 => 155 | 125 => 210 | 258 => 209 | 128 => 242 | 129 => 243 | 302 => 234 | 303 => 235 | 304 => 236 | 305 => 237 | 306 => 238 | 307 => 239 | 308 => 232 | 309 => 240 | 310 => 241 | 333 => 256 | 329 => 257 | 330 => 258 | 334 => 259 | 335 => 260 | 336 => 255 | 344 => 263 | n => n, fun | 31 => 23 | 9 => 9 | 3 => 3 | 46 => 149 | 0 => 0 | 51 => 178 | 53 => 85 | 4 => 4 | 183 => 188 | 182 => 187 | 131 => 60 | 5 => 5 | 218 => 205 | 222 => 209 | 228 => 212 | 229 => 213 | n => n, fun | n => n⟩
theorem Tryz.lays190 : Go.Proofs.Lays.n190 Tryz.prog Tryz.lays190_ren := {
  mixed := by kernel_rfl
  f125 := Tryz.func210.trans (congrArg some (by kernel_rfl))
  f128 := Tryz.func242.trans (congrArg some (by kernel_rfl))
  f129 := Tryz.func243.trans (congrArg some (by kernel_rfl))
  f190 := Tryz.func155.trans (congrArg some (by kernel_rfl))
  f258 := Tryz.func209.trans (congrArg some (by kernel_rfl))
  f302 := Tryz.func234.trans (congrArg some (by kernel_rfl))
  f303 := Tryz.func235.trans (congrArg some (by kernel_rfl))
  f304 := Tryz.func236.trans (congrArg some (by kernel_rfl))
  f305 := Tryz.func237.trans (congrArg some (by kernel_rfl))
  f306 := Tryz.func238.trans (congrArg some (by kernel_rfl))
  f307 := Tryz.func239.trans (congrArg some (by kernel_rfl))
  f308 := Tryz.func232.trans (congrArg some (by kernel_rfl))
  f309 := Tryz.func240.trans (congrArg some (by kernel_rfl))
  f310 := Tryz.func241.trans (congrArg some (by kernel_rfl))
  f329 := Tryz.func257.trans (congrArg some (by kernel_rfl))
  f330 := Tryz.func258.trans (congrArg some (by kernel_rfl))
  f333 := Tryz.func256.trans (congrArg some (by kernel_rfl))
  f334 := Tryz.func259.trans (congrArg some (by kernel_rfl))
  f335 := Tryz.func260.trans (congrArg some (by kernel_rfl))
  f336 := Tryz.func255.trans (congrArg some (by kernel_rfl))
  f344 := Tryz.func263.trans (congrArg some (by kernel_rfl))
  t0 := Tryz.underlying0
  a0 := Tryz.isAgg0
  z0 := Tryz.sizeOf0
  v0 := Tryz.zeroValue0
  t3 := Tryz.underlying3
  a3 := Tryz.isAgg3
  z3 := Tryz.sizeOf3
  v3 := Tryz.zeroValue3
  t4 := Tryz.underlying4
  a4 := Tryz.isAgg4
  z4 := Tryz.sizeOf4
  v4 := Tryz.zeroValue4
  t5 := Tryz.underlying5
  a5 := Tryz.isAgg5
  z5 := Tryz.sizeOf5
  v5 := Tryz.zeroValue5
  t9 := Tryz.underlying9
  a9 := Tryz.isAgg9
  z9 := Tryz.sizeOf9
  v9 := Tryz.zeroValue9
  t31 := Tryz.underlying23
  a31 := Tryz.isAgg23
  z31 := Tryz.sizeOf23
  v31 := Tryz.zeroValue23
  t46 := Tryz.underlying149
  a46 := Tryz.isAgg149
  z46 := Tryz.sizeOf149
  v46 := Tryz.zeroValue149
  t51 := Tryz.underlying178
  a51 := Tryz.isAgg178
  z51 := Tryz.sizeOf178
  v51 := Tryz.zeroValue178
  t53 := Tryz.underlying85
  a53 := Tryz.isAgg85
  z53 := Tryz.sizeOf85
  v53 := Tryz.zeroValue85
  t131 := Tryz.underlying60
  a131 := Tryz.isAgg60
  z131 := Tryz.sizeOf60
  v131 := Tryz.zeroValue60
  t182 := Tryz.underlying187
  a182 := Tryz.isAgg187
  z182 := Tryz.sizeOf187
  v182 := Tryz.zeroValue187
  t183 := Tryz.underlying188
  a183 := Tryz.isAgg188
  z183 := Tryz.sizeOf188
  v183 := Tryz.zeroValue188
  t218 := Tryz.underlying205
  a218 := Tryz.isAgg205
  z218 := Tryz.sizeOf205
  v218 := Tryz.zeroValue205
  t222 := Tryz.underlying209
  a222 := Tryz.isAgg209
  z222 := Tryz.sizeOf209
  v222 := Tryz.zeroValue209
  t228 := Tryz.underlying212
  a228 := Tryz.isAgg212
  z228 := Tryz.sizeOf212
  v228 := Tryz.zeroValue212
  t229 := Tryz.underlying213
  a229 := Tryz.isAgg213
  z229 := Tryz.sizeOf213
  v229 := Tryz.zeroValue213 }
open Go.Sort Go.RowKit in
theorem Tryz.slices_Sort_string (blk off cap : Nat) (ss : List (List UInt8)) (w : World) (hH : Holds encStr w blk off ss.toArray) (hblk : blk < w.heap.size) (hsz : ss.length < 4611686018427387904) :
    Calls Tryz.prog 155 #[.slice (some ⟨blk, off, none⟩) ss.length cap] w fun e w' =>
      e = .returned (.tuple #[]) ∧ ∃ n os, w' = grow (putRow encStr (Sort.ahead w n) blk off (ss.mergeSort fun x y => decide (x ≤ y)).toArray) os := Any.slices_Sort_string Tryz.lays190 blk off cap ss w hH hblk hsz
end Go.Proofs
/- The library's sort of a row of texts of the call's own: the same row, the same texts, in order. -/
namespace Go.Proofs.YtidolgonmimicaaGreat
set_option linter.unusedVariables false
set_option linter.unusedSimpArgs false
open Go.ChangeShapes Go.WideShapes Go.ChangeAt Go.RowKit Go.Deep
theorem bytes_lt : ∀ a b : List UInt8, Op.bytesLess a b = decide (a < b)
  | [], [] => by simp [Op.bytesLess]
  | [], _ :: _ => by simp [Op.bytesLess]
  | _ :: _, [] => by simp [Op.bytesLess]
  | x :: a, y :: b => by
    rw [Op.bytesLess, bytes_lt a b]
    simp only [List.cons_lt_cons_iff]
    rcases Nat.lt_trichotomy x.toNat y.toNat with h | h | h
    · have h1 : x < y := h
      simp [h1]
    · have h1 : x = y := UInt8.toNat_inj.1 h
      subst h1; simp
    · have h1 : ¬ x < y := fun q => Nat.lt_asymm h q
      have h2 : ¬ x = y := fun q => by subst q; exact Nat.lt_irrefl _ h
      simp [h1, h2]
theorem ba_list (s : ByteArray) : (⟨s.data.toList.toArray⟩ : ByteArray) = s := by cases s; simp
theorem le_leS {x y : List UInt8} (h : decide (x ≤ y) = true) : leS ⟨x.toArray⟩ ⟨y.toArray⟩ = true := by
  rw [leS, less, ByteArray.toList_eq, ByteArray.toList_eq, bytes_lt]
  simpa using h
theorem sort_strs {g n c base : Nat} {l : List ByteArray} {w : World} (ho : Owned strE 1 9 w base (some ⟨g, 0, none⟩) n c l) (hn : n ≤ 16777216) :
    Calls Tryz.prog 155 #[.slice (some ⟨g, 0, none⟩) n c] w fun e w' => e = .returned (.tuple #[]) ∧ ∃ L, Owned strE 1 9 w' base (some ⟨g, 0, none⟩) n c L ∧ L.Perm l ∧ Srt L ∧ w.grownBy w' (some g) := by
  obtain ⟨he, hl, _, hv⟩ := ho
  rcases hv with ⟨h0, _⟩ | ⟨g', c', cur, hv, hbase, hb, h1, h2, h3, h4⟩
  · cases h0
  cases hv
  obtain ⟨ss, hss⟩ : ∃ ss, ss = l.map fun s : ByteArray => s.data.toList := ⟨_, rfl⟩
  have hlen : ss.length = n := by rw [hss, List.length_map, hl]
  have hE : ∀ m : List ByteArray, m.flatMap strE = (m.map fun s : ByteArray => s.data.toList).map encStr := fun m => by
    rw [show strE = fun s => [Value.string s] from rfl, flatMap_one, List.map_map]
    exact List.map_congr_left fun s _ => by simp [encStr, ba_list]
  have hH : Sort.Holds encStr w g 0 ss.toArray := holds_of_block hb (by rw [hlen, hss, ← hE]; simpa using h4)
  have hc := Tryz.slices_Sort_string g 0 c ss w hH (Array.getElem?_eq_some_iff.1 hb).1 (by omega)
  rw [hlen] at hc
  refine hc.mono ?_
  rintro e w' ⟨rfl, k, os, rfl⟩
  refine ⟨rfl, (ss.mergeSort fun x y => decide (x ≤ y)).map fun x => (⟨x.toArray⟩ : ByteArray), ?_, ?_, ?_, grownBy_sorted _⟩
  · have hr := ownsRow_sorted (n := k) (os := os) (ss := ss) (ts := ss.mergeSort fun x y => decide (x ≤ y)) (by simp) hbase hb (by rw [hlen]; exact h1) h2 h3
    rw [hlen] at hr
    refine ⟨he, by simp [hlen], ?_⟩
    have e2 : ((ss.mergeSort fun x y => decide (x ≤ y)).map fun x : List UInt8 => (⟨x.toArray⟩ : ByteArray)).map (fun s : ByteArray => s.data.toList) = ss.mergeSort fun x y => decide (x ≤ y) := by
      rw [List.map_map, List.map_congr_left (g := id) (fun x _ => by simp)]; simp
    rw [hE, e2]
    exact hr
  · have hp : (ss.mergeSort fun x y => decide (x ≤ y)).Perm ss := List.mergeSort_perm _ _
    have hq := hp.map fun x => (⟨x.toArray⟩ : ByteArray)
    rw [hss, List.map_map] at hq
    have e1 : l.map ((fun x : List UInt8 => (⟨x.toArray⟩ : ByteArray)) ∘ fun s : ByteArray => s.data.toList) = l := by
      rw [List.map_congr_left (g := id) (fun s _ => by exact ba_list s)]; simp
    rw [e1] at hq
    rw [hss]; exact hq
  · have hs := List.pairwise_mergeSort (le := fun x y : List UInt8 => decide (x ≤ y)) (fun a b c h1 h2 => by simp at h1 h2 ⊢; exact List.le_trans h1 h2) (fun a b => by simp; exact List.le_total a b) ss
    rw [Srt, List.pairwise_map]
    exact hs.imp fun h => le_leS h
end Go.Proofs.YtidolgonmimicaaGreat
/- The walk through the library's comparison of two lists of texts. -/
namespace Go.Proofs.YtidolgonmimicaaGreat
set_option linter.unusedVariables false
set_option linter.unusedSimpArgs false
open Go.ChangeShapes Go.WideShapes Go.ChangeAt Go.RowKit Go.Deep
set_option maxRecDepth 100000 in
theorem equal_strs (A C : Option Addr) (n n' c d : Nat) (l m : List ByteArray) (w : World) (hn : l.length = n) (hn' : m.length = n') (h : Recs strE 1 w A l) (g : Recs strE 1 w C m) (hz : n ≤ 16777216) (hz' : n' ≤ 16777216) :
    Calls Tryz.prog 111 #[.slice A n c, .slice C n' d] w fun e w' => e = .returned (.bool (decide (l = m))) ∧ Below w.heap.size w w' := by
  subst hn hn'
  by_cases hl : l.length = m.length
  · have HL := Lib.hid hl
    rw [← hl]
    clear hl
    go_in
    go_wp2
    go_loopw [13] (fun i wr => ∃ k : Nat, k ≤ l.length ∧ i = .int .i64 k ∧ Hid (∀ j, j < k → l[j]? = m[j]?) ∧ Below w.heap.size w wr) (fun i _ => l.length - (intOf i).toNat)
    case atStart => exact ⟨0, Nat.zero_le _, rfl, Lib.hid (fun j hj => absurd hj (by omega)), Below.refl _ _⟩
    case round =>
      obtain ⟨k, hk, rfl, HT, hb⟩ := hrel
      by_cases hlt : k < l.length
      · obtain ⟨b1, o1, x, rfl, _, hx, hcx⟩ := (h.below hb (Nat.le_refl _)).at_str hlt
        obtain ⟨b2, o2, y, rfl, _, hy, hcy⟩ := (g.below hb (Nat.le_refl _)).at_str (by rw [← HL.out]; exact hlt)
        have HX := Lib.hid hx
        have HY := Lib.hid hy
        clear hx hy h g
        rcases hne : (x.toList == y.toList)
        · have he := Lib.hid hne
          go_wp2
          go_quiet (fail)
          go_wp2
          go_ret
          refine ⟨ret_bool ?_, by (repeat' (first | (with_reducible exact Below.refl _ _) | (with_reducible assumption) | (with_reducible refine below_drewN ?_ _) | (with_reducible refine Below.drew ?_) | (with_reducible refine below_alloc ?_ _) | (with_reducible refine Below.alloc ?_ ?_ _) | (with_reducible refine Below.setCell ?_ ?_ _) | (with_reducible refine below_go ?_ (by with_reducible assumption)) | (with_reducible refine below_then (by with_reducible assumption) ?_ ?_) | go_size))⟩
          have hd : l ≠ m := fun e => by
            have h1 := HX.out
            rw [e, HY.out] at h1
            injection h1 with h1
            have h2 := he.out
            rw [h1] at h2
            simp at h2
          simp [hd]
        · have he := Lib.hid hne
          go_wp2
          go_quiet (fail)
          go_wp2
          go_roundw
          case rel => exact ⟨k + 1, by omega, by go_num, Lib.hid (upto_succ HT.out (by rw [HX.out, HY.out, bytes_same he.out])), by (repeat' (first | (with_reducible exact Below.refl _ _) | (with_reducible assumption) | (with_reducible refine below_drewN ?_ _) | (with_reducible refine Below.drew ?_) | (with_reducible refine below_alloc ?_ _) | (with_reducible refine Below.alloc ?_ ?_ _) | (with_reducible refine Below.setCell ?_ ?_ _) | (with_reducible refine below_go ?_ (by with_reducible assumption)) | (with_reducible refine below_then (by with_reducible assumption) ?_ ?_) | go_size))⟩
          case measure => simp [intOf]; omega
      · go_wp2
        go_ret
        refine ⟨ret_bool ?_, hb⟩
        have hd : l = m := eq_of_upto (fun j hj => HT.out j hj) (by omega) (by have := HL.out; omega)
        simp [hd]
  · have hne : ((l.length : Int) != (m.length : Int)) = true := by simp; omega
    have hd : l ≠ m := fun e => hl (by rw [e])
    have HD := Lib.hid hd
    clear hd hl
    go_in
    go_wp2
    go_ret
    refine ⟨ret_bool ?_, by (repeat' (first | (with_reducible exact Below.refl _ _) | (with_reducible assumption) | (with_reducible refine below_drewN ?_ _) | (with_reducible refine Below.drew ?_) | (with_reducible refine below_alloc ?_ _) | (with_reducible refine Below.alloc ?_ ?_ _) | (with_reducible refine Below.setCell ?_ ?_ _) | (with_reducible refine below_go ?_ (by with_reducible assumption)) | (with_reducible refine below_then (by with_reducible assumption) ?_ ?_) | go_size))⟩
    simp [HD.out]
end Go.Proofs.YtidolgonmimicaaGreat
