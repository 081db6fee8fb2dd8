/- Texts 6 of 6 that the claim leans on: plain laws and the walks' contracts, in order. -/
import Derived.Test.YtidolgonmimicaaGreatDoorMCalling5
/- The change between two rows: the program's way and the reference's agree on whether there is one. -/
namespace Go.Proofs.YtidolgonmimicaaGreatDoor
set_option linter.unusedVariables false
set_option linter.unusedSimpArgs false
open Go.ChangeShapes Go.WideShapes Go.ChangeAt Go.RowKit Go.Deep
/-- From which places the bytes come, k places left from place i on, ps the places (from 1) that stay. -/
def idxK : Nat → Nat → List Int → List Nat
  | _, 0, _ => []
  | i, 1, _ => [i]
  | i, k + 2, ps => match ps with
    | [] => (i + 1) :: i :: idxK (i + 2) k []
    | x :: r => if x = (i : Int) + 1 then i :: idxK (i + 1) (k + 1) r else (i + 1) :: i :: idxK (i + 2) k (x :: r)
theorem idx_stay (i k : Nat) (r : List Int) : idxK i (k + 2) (((i : Int) + 1) :: r) = i :: idxK (i + 1) (k + 1) r := by rw [idxK, if_pos rfl]
theorem idx_swap {i k : Nat} {ps : List Int} (h : ∀ x ∈ ps, (i : Int) + 1 < x) : idxK i (k + 2) ps = (i + 1) :: i :: idxK (i + 2) k ps := by
  rcases ps with _ | ⟨x, r⟩
  · rw [idxK]
  · rw [idxK, if_neg (by have := h x (List.mem_cons_self ..); omega)]
theorem idxK_len : ∀ (k i : Nat) (ps : List Int), (idxK i k ps).length = k
  | 0, _, _ => rfl
  | 1, _, _ => rfl
  | k + 2, i, [] => by rw [idxK, List.length_cons, List.length_cons, idxK_len k]
  | k + 2, i, x :: r => by
    rw [idxK]
    split
    · rw [List.length_cons, idxK_len (k + 1)]
    · rw [List.length_cons, List.length_cons, idxK_len k]
/-- The program's way: k places left, i done, whether a pair has been swapped. -/
def btwK (a b : ByteArray) : Nat → Nat → Bool → Bool
  | 0, _, sw => sw
  | 1, i, sw => if PlainAid.bt a i = PlainAid.bt b i then sw else false
  | k + 2, i, sw => if PlainAid.bt a i = PlainAid.bt b i then btwK a b (k + 1) (i + 1) sw else
      if PlainAid.bt a i = PlainAid.bt b (i + 1) ∧ PlainAid.bt a (i + 1) = PlainAid.bt b i then btwK a b k (i + 2) true else false
def fromIdx (a b : ByteArray) (i k : Nat) (ps : List Int) : Prop := ∀ j, j < k → PlainAid.bt b (i + j) = PlainAid.bt a ((idxK i k ps).getD j 0)
theorem btw_iff {a b : ByteArray} (n : Nat) (hd : ∀ i j, i < j → j < n → PlainAid.bt a i ≠ PlainAid.bt a j) : ∀ (k i : Nat) (sw : Bool), i + k = n →
    (btwK a b k i sw = true ↔ ∃ ps ∈ fromK (i + 1) k, fromIdx a b i k ps ∧ (sw = true ∨ ps.length < k))
  | 0, i, sw, h => by
    simp only [btwK, fromK, List.mem_singleton, exists_eq_left, fromIdx, List.length_nil]
    constructor
    · intro h; exact ⟨fun j hj => absurd hj (by omega), .inl h⟩
    · rintro ⟨_, h | h⟩
      · exact h
      · omega
  | 1, i, sw, h => by
    simp only [btwK, fromK, List.mem_singleton, exists_eq_left, fromIdx, List.length_cons, List.length_nil]
    constructor
    · intro h
      split at h
      · rename_i e
        exact ⟨fun j hj => by obtain rfl : j = 0 := by omega
                              simp [idxK, e], .inl h⟩
      · cases h
    · rintro ⟨h1, h | h⟩
      · have := h1 0 (by omega)
        simp [idxK] at this
        rw [if_pos this.symm]; exact h
      · omega
  | k + 2, i, sw, h => by
    have ih1 := btw_iff (b := b) n hd (k + 1) (i + 1) sw (by omega)
    have ih2 := btw_iff (b := b) n hd k (i + 2) true (by omega)
    have hsplit : ∀ ps, ps ∈ fromK (i + 1) (k + 2) ↔ (∃ r ∈ fromK (i + 2) (k + 1), ps = ((i : Int) + 1) :: r) ∨ ps ∈ fromK (i + 3) k := fun ps => by
      rw [fromK, List.mem_append, List.mem_map]
      constructor
      · rintro (⟨r, hr, rfl⟩ | h)
        · exact .inl ⟨r, hr, by congr 1⟩
        · exact .inr h
      · rintro (⟨r, hr, rfl⟩ | h)
        · exact .inl ⟨r, hr, by congr 1⟩
        · exact .inr h
    rw [btwK]
    constructor
    · intro hb
      split at hb
      · rename_i e
        obtain ⟨r, hr, h1, h2⟩ := ih1.1 hb
        refine ⟨((i : Int) + 1) :: r, (hsplit _).2 (.inl ⟨r, hr, rfl⟩), fun j hj => ?_, ?_⟩
        · rw [idx_stay]
          rcases j with _ | j
          · simpa using e.symm
          · have := h1 j (by omega)
            rw [show i + (j + 1) = i + 1 + j by omega]
            simpa using this
        · rcases h2 with h2 | h2
          · exact .inl h2
          · right; rw [List.length_cons]; omega
      · split at hb
        · rename_i e
          obtain ⟨ps, hps, h1, h2⟩ := ih2.1 hb
          have hx := (fromK_row k (i + 3) ps hps)
          refine ⟨ps, (hsplit _).2 (.inr hps), fun j hj => ?_, .inr (by omega)⟩
          rw [idx_swap (fun x hx' => by have := hx.2 x hx'; omega)]
          rcases j with _ | _ | j
          · simpa using e.2.symm
          · simpa using e.1.symm
          · have := h1 j (by omega)
            rw [show i + (j + 1 + 1) = i + 2 + j by omega]
            simpa using this
        · cases hb
    · rintro ⟨ps, hps, h1, h2⟩
      rcases (hsplit ps).1 hps with ⟨r, hr, rfl⟩ | hps
      · rw [fromIdx, idx_stay] at h1
        have h0 := h1 0 (by omega)
        simp at h0
        rw [if_pos h0.symm]
        refine ih1.2 ⟨r, hr, fun j hj => ?_, ?_⟩
        · have := h1 (j + 1) (by omega)
          rw [show i + (j + 1) = i + 1 + j by omega] at this
          simpa using this
        · rcases h2 with h2 | h2
          · exact .inl h2
          · right; rw [List.length_cons] at h2; omega
      · have hx := (fromK_row k (i + 3) ps hps)
        rw [fromIdx, idx_swap (fun x hx' => by have := hx.2 x hx'; omega)] at h1
        have h0 := h1 0 (by omega)
        have h3 := h1 1 (by omega)
        simp at h0 h3
        have hne := hd i (i + 1) (by omega) (by omega)
        rw [if_neg (fun e => hne (by rw [e, h0])), if_pos ⟨h3.symm, h0.symm⟩]
        refine ih2.2 ⟨ps, hps, fun j hj => ?_, .inl rfl⟩
        have := h1 (j + 1 + 1) (by omega)
        rw [show i + (j + 1 + 1) = i + 2 + j by omega] at this
        simpa using this
/-! sws by fuel, for the kernel -/
def swsF (st : Int → Bool) (n : Nat) : Nat → Nat → List Int
  | 0, _ => []
  | f + 1, p => if p < n then (if st p then swsF st n f (p + 1) else (p : Int) :: swsF st n f (p + 2)) else []
theorem sws_F (st : Int → Bool) (n : Nat) : ∀ (f p : Nat), n ≤ p + f → sws st n p = swsF st n f p
  | 0, p, h => by rw [sws_end (by omega), swsF]
  | f + 1, p, h => by
    rw [swsF]
    by_cases hp : p < n
    · rw [if_pos hp]
      rcases hs : st p
      · rw [sws_swap hp hs, if_neg (by simp), sws_F st n f (p + 2) (by omega)]
      · rw [sws_stay hp hs, if_pos rfl, sws_F st n f (p + 1) (by omega)]
    · rw [sws_end hp, if_neg hp]
def idxC (n : Nat) (ps : List Int) : List Nat := (List.range n).map fun j => (cval (swsF (stays (ofPl ps)) n 9 1) j - 49).toNat
def okPs (n : Nat) (ps : List Int) : Bool := (idxC n ps == idxK 0 n ps) && (goodChange n (ofPl ps) == decide (ps.length < n))
theorem all_ok : ∀ n, n < 9 → 3 ≤ n → (fromK 1 n).all (okPs n) = true := of_decide_eq_true (by kernel_rfl)
end Go.Proofs.YtidolgonmimicaaGreatDoor
/- A change leads from one row to another just where the program finds one. -/
namespace Go.Proofs.YtidolgonmimicaaGreatDoor
set_option linter.unusedVariables false
set_option linter.unusedSimpArgs false
open Go.ChangeShapes Go.WideShapes Go.ChangeAt Go.RowKit Go.Deep
theorem nums_apply {a : ByteArray} (h : goodRow a = true) (c : ByteArray) : nums (applyR a c) = (rowV a.size (swaps a.size c)).map fun z => PlainAid.bt a (z - 49).toNat := by
  have hn := goodRow_n h
  have hr := goodRow_list h
  have e0 : nums (chRow a.size c) = rowV a.size (swaps a.size c) := by rw [chRow, nums_strOf (rowL_bytes (rowL_ch a.size c) (by rw [rowV_len]; omega))]
  have h2 := rowL_times hr (by rw [e0]; exact rowL_ch a.size c) (chRow_size a.size c).symm
  rw [applyR, timesS, nums_strOf (rowL_bytes h2 (by rw [timesL_len, chRow_size]; omega)), timesL, e0]
theorem apply_iff {a b : ByteArray} (ha : goodRow a = true) (e : a.size = b.size) {ps : List Int} (hps : ps ∈ fromK 1 a.size) : applyR a (ofPl ps) = b ↔ fromIdx a b 0 a.size ps := by
  have hn := goodRow_n ha
  have hok := all_ok a.size (by omega) (by omega)
  rw [List.all_eq_true] at hok
  have hok := hok ps hps
  rw [okPs, Bool.and_eq_true] at hok
  have hi : idxC a.size ps = idxK 0 a.size ps := by simpa using hok.1
  have hsw : swsF (stays (ofPl ps)) a.size 9 1 = swaps a.size (ofPl ps) := (sws_F _ _ _ _ (by omega)).symm
  have hat : ∀ j, j < a.size → (nums (applyR a (ofPl ps)))[j]? = some (PlainAid.bt a ((idxK 0 a.size ps).getD j 0)) := fun j hj => by
    rw [nums_apply ha, ← hi, rowV, List.map_map, List.getElem?_map, List.getElem?_range hj, idxC, hsw]
    simp [hj]
  constructor
  · intro h j hj
    have h1 := hat j hj
    rw [h, nums_at (by omega)] at h1
    injection h1 with h1
    rw [Nat.zero_add]; exact h1
  · intro h
    apply nums_inj
    apply List.ext_getElem?
    intro j
    by_cases hj : j < a.size
    · rw [hat j hj, nums_at (by omega)]
      have := h j hj
      rw [Nat.zero_add] at this
      rw [this]
    · rw [List.getElem?_eq_none (by rw [nums_len, applyR_size]; omega), List.getElem?_eq_none (by rw [nums_len]; omega)]
theorem mem_chs {n : Nat} {c : ByteArray} : c ∈ chsRaw n ↔ (∃ ps ∈ fromK 1 n, ofPl ps = c) ∧ goodChange n c = true := by
  rw [chsRaw, List.mem_filter, List.mem_map]
theorem row_ne {a : ByteArray} (ha : goodRow a = true) {i j : Nat} (hij : i < j) (hj : j < a.size) : PlainAid.bt a i ≠ PlainAid.bt a j := by
  have hp := (goodRow_list ha).1
  rw [List.nodup_iff_pairwise_ne, List.pairwise_iff_getElem] at hp
  have := hp i j (by rw [nums_len]; omega) (by rw [nums_len]; omega) hij
  have h1 := nums_at (s := a) (k := i) (by omega); have h2 := nums_at (s := a) (k := j) (by omega)
  rw [List.getElem?_eq_getElem (by rw [nums_len]; omega)] at h1 h2
  injection h1 with h1; injection h2 with h2
  rw [← h1, ← h2]; exact this
/-- Whether a change leads from a to b. -/
def btwB (a b : ByteArray) : Bool := btwK a b a.size 0 false
theorem btw_change {a b : ByteArray} (ha : goodRow a = true) (e : a.size = b.size) : btwB a b = true ↔ ∃ c ∈ chsRaw a.size, applyR a c = b := by
  have hn := goodRow_n ha
  have hok := all_ok a.size (by omega) (by omega)
  rw [List.all_eq_true] at hok
  rw [btwB, btw_iff (b := b) a.size (fun i j h1 h2 => row_ne ha h1 h2) a.size 0 false (by omega)]
  constructor
  · rintro ⟨ps, hps, h1, h2⟩
    have h3 := hok ps hps
    rw [okPs, Bool.and_eq_true] at h3
    have hl : ps.length < a.size := by rcases h2 with h2 | h2; cases h2; exact h2
    have hg : goodChange a.size (ofPl ps) = true := by
      have := h3.2
      rw [decide_eq_true hl] at this
      simpa using this
    exact ⟨ofPl ps, mem_chs.2 ⟨⟨ps, hps, rfl⟩, hg⟩, (apply_iff ha e hps).2 h1⟩
  · rintro ⟨c, hc, h1⟩
    obtain ⟨⟨ps, hps, rfl⟩, hg⟩ := mem_chs.1 hc
    have h3 := hok ps hps
    rw [okPs, Bool.and_eq_true, hg] at h3
    refine ⟨ps, hps, (apply_iff ha e hps).1 h1, .inr ?_⟩
    have := h3.2
    by_cases hl : ps.length < a.size
    · exact hl
    · rw [decide_eq_false hl] at this; simp at this
end Go.Proofs.YtidolgonmimicaaGreatDoor
/- The walks through the change between two rows, both sides. -/
namespace Go.Proofs.YtidolgonmimicaaGreatDoor
set_option linter.unusedVariables false
set_option linter.unusedSimpArgs false
open Go.ChangeShapes Go.WideShapes Go.ChangeAt Go.RowKit Go.Deep
theorem chs_len {n : Nat} (h : n ≤ 8) : (chsRaw n).length ≤ 34 := by
  rw [chsRaw]
  exact Nat.le_trans (List.length_filter_le _ _) (by rw [List.length_map]; exact fromK_le h 1)
theorem btw_eq {a b : ByteArray} {k i : Nat} {sw : Bool} (h : PlainAid.bt a i = PlainAid.bt b i) : btwK a b (k + 1) i sw = btwK a b k (i + 1) sw := by
  rcases k with _ | k
  · show (if PlainAid.bt a i = PlainAid.bt b i then sw else false) = sw
    exact if_pos h
  · rw [btwK, if_pos h]
theorem btw_no1 {a b : ByteArray} {i : Nat} {sw : Bool} (h : ¬ PlainAid.bt a i = PlainAid.bt b i) : btwK a b 1 i sw = false := by rw [btwK, if_neg h]
theorem btw_swap {a b : ByteArray} {k i : Nat} {sw : Bool} (h : ¬ PlainAid.bt a i = PlainAid.bt b i) (h1 : PlainAid.bt a i = PlainAid.bt b (i + 1)) (h2 : PlainAid.bt a (i + 1) = PlainAid.bt b i) : btwK a b (k + 2) i sw = btwK a b k (i + 2) true := by
  rw [btwK, if_neg h, if_pos ⟨h1, h2⟩]
theorem btw_no {a b : ByteArray} {k i : Nat} {sw : Bool} (h : ¬ PlainAid.bt a i = PlainAid.bt b i) (h1 : ¬ (PlainAid.bt a i = PlainAid.bt b (i + 1) ∧ PlainAid.bt a (i + 1) = PlainAid.bt b i)) : btwK a b (k + 2) i sw = false := by
  rw [btwK, if_neg h, if_neg h1]
end Go.Proofs.YtidolgonmimicaaGreatDoor
/- The walks through lists of changes between rows, truth by sorting, factorials, and extents. -/
namespace Go.Proofs.YtidolgonmimicaaGreatDoor
set_option linter.unusedVariables false
set_option linter.unusedSimpArgs false
open Go.ChangeShapes Go.WideShapes Go.ChangeAt Go.RowKit Go.Deep
theorem fact_le : ∀ k, k < 9 → fact k ≤ 40320 := of_decide_eq_true (by kernel_rfl)
theorem fact_one {n : Nat} (h : n ≤ 1) : fact n = 1 := by
  rcases n with _ | _ | n
  · rfl
  · rfl
  · omega
/-- Row k of a list of rows, cyclically. -/
def cyc (l : List ByteArray) (k : Nat) : ByteArray := l.getD (k % l.length) ByteArray.empty
def nextAt (l : List ByteArray) (k : Nat) : Bool := btwB (cyc l k) (cyc l (k + 1))
def nextsB (l : List ByteArray) : Bool := (List.range l.length).all (nextAt l)
theorem cyc_at {l : List ByteArray} {k : Nat} {x : ByteArray} (h : l[k]? = some x) : cyc l k = x := by
  have := (List.getElem?_eq_some_iff.1 h).1
  rw [cyc, Nat.mod_eq_of_lt this, List.getD, h]; rfl
theorem cyc_last {l : List ByteArray} {x : ByteArray} (h : l[0]? = some x) : cyc l l.length = x := by
  rw [cyc, Nat.mod_self, List.getD, h]; rfl
theorem btw_self (a : ByteArray) : ∀ (k i : Nat) (sw : Bool), btwK a a k i sw = sw
  | 0, _, _ => by rw [btwK]
  | k + 1, i, sw => by rw [btw_eq rfl, btw_self a k]
theorem nexts_one {l : List ByteArray} (h : l.length = 1) : nextsB l = false := by
  match l, h with
  | [x], _ =>
    show (List.all [0] (nextAt [x])) = false
    simp [nextAt, cyc, btwB, btw_self]
theorem goodRows_size {l : List ByteArray} (h : goodRows l = true) {i j : Nat} {x y : ByteArray} (hx : l[i]? = some x) (hy : l[j]? = some y) : x.size = y.size := by
  rw [goodRows, Bool.and_eq_true, List.all_eq_true] at h
  have key : ∀ (k : Nat) (z : ByteArray), l[k]? = some z → z.size = (l.getD 0 ByteArray.empty).size := fun k z hz => by
    have := h.1 k (List.mem_range.2 (List.getElem?_eq_some_iff.1 hz).1)
    rw [okRow, Bool.and_eq_true, List.getD, hz] at this
    simpa using this.2
  rw [key i x hx, key j y hy]
/-! extents -/
def smallR (l : List ByteArray) : Bool := goodRows l && (decide (0 < l.length) && decide ((l.getD 0 ByteArray.empty).size ≤ 6))
def extR (l : List ByteArray) : Bool := smallR l && (nextsB l && (nodupB l && (l.length == fact (l.getD 0 ByteArray.empty).size)))
theorem small_t {l : List ByteArray} (h : smallR l = true) : goodRows l = true ∧ 0 < l.length ∧ ∀ x, l[0]? = some x → x.size ≤ 6 := by
  simp only [smallR, Bool.and_eq_true, decide_eq_true_eq] at h
  exact ⟨h.1, h.2.1, fun x hx => by have := h.2.2; rw [List.getD, hx] at this; exact this⟩
end Go.Proofs.YtidolgonmimicaaGreatDoor
/- The walks through draws of rows and of lists of rows. -/
namespace Go.Proofs.YtidolgonmimicaaGreatDoor
set_option linter.unusedVariables false
set_option linter.unusedSimpArgs false
open Go.ChangeShapes Go.WideShapes Go.ChangeAt Go.RowKit Go.Deep
set_option maxRecDepth 100000 in
theorem cur_pickL {A : Option Addr} {n c a p : Nat} {N : Int} {w0 w : World} (hS : Src w0 A n) (hb : Below w0.heap.size w0 w) (hp : w0.heap.size ≤ p) (hc : Cur w p A n c a) (ha : a ≤ 10000000) (hN : N ≤ 50000) (hN0 : -1000 ≤ N) :
    Calls Tryz.prog 13 #[.pointer (some ⟨p, 0, none⟩), .int .i64 N] w fun e w' => ∃ x : Int, e = .returned (.int .i64 x) ∧ upTo N x ∧ Cur w' p A n c (a + 2) ∧ w.grownBy w' (some p) := by
  by_cases h2 : N ≤ 200
  · refine (cur_pick hS hb hp hc (by omega) h2 hN0).mono ?_; rintro e w1 ⟨x, rfl, hx, hc1, hg1⟩
    exact ⟨x, rfl, hx, hc1.mono (by omega), hg1⟩
  · have G : Hid (∀ u : World, w.grownBy u (some p) → Below w0.heap.size w0 u) := Lib.hid (fun u hg => grown_below hb hp hg)
    have hI : (200 : Int) < N := by omega
    have hI1 : ¬ N ≤ 1 := by omega
    have hN1 : ¬ N = 0 := by omega
    go_in
    go_wp2_with fail
    refine (cur_next hS hb hp hc (by omega)).mono ?_; rintro e w1 ⟨x, rfl, x0, x1, hc1, hg1⟩
    go_wp2_with fail
    refine (cur_next hS (G.out _ hg1) hp hc1 (by omega)).mono ?_; rintro e w2 ⟨y, rfl, y0, y1, hc2, hg2⟩
    have hm : (x * 256 + y).tmod N = (x * 256 + y) % N := Int.tmod_eq_emod_of_nonneg (by omega)
    have m0 := Int.emod_nonneg (x * 256 + y) hN1
    have m1 := Int.emod_lt_of_pos (x * 256 + y) (show 0 < N by omega)
    go_wp2
    go_ret
    exact ⟨_, rfl, ⟨m0, .inl m1⟩, hc2, grownBy_trans hg1 hg2⟩
def txLen : Value → Nat
  | .string s => s.size
  | _ => 0
end Go.Proofs.YtidolgonmimicaaGreatDoor
/- The walks through the generator of spoilt texts. -/
namespace Go.Proofs.YtidolgonmimicaaGreatDoor
set_option linter.unusedVariables false
set_option linter.unusedSimpArgs false
open Go.ChangeShapes Go.WideShapes Go.ChangeAt Go.RowKit Go.Deep
set_option maxHeartbeats 1000000 in
set_option maxRecDepth 100000 in
theorem cur_spoilt {A : Option Addr} {n c a p B : Nat} {t v : ByteArray} {w0 w : World} (hS : Src w0 A n) (hb : Below w0.heap.size w0 w) (hp : w0.heap.size ≤ p) (hc : Cur w p A n c a) (ha : a ≤ 1000000) (ht : t.size ≤ B) (hB : B ≤ 40000) (hv0 : 0 < v.size) (hv : v.size ≤ 200) :
    Calls Tryz.prog 24 #[.pointer (some ⟨p, 0, none⟩), .string t, .string v] w fun e w' => ∃ s : ByteArray, e = .returned (.string s) ∧ s.size ≤ B + 2 ∧ Cur w' p A n c (a + 20) ∧ w.grownBy w' (some p) := by
  have HS := Lib.hid hS
  have G : Hid (∀ u : World, w.grownBy u (some p) → Below w0.heap.size w0 u) := Lib.hid (fun u hg => grown_below hb hp hg)
  go_in
  go_wp2_with fail
  refine (cur_pick hS hb hp hc (by omega) (by decide) (by decide)).mono ?_; rintro e w1 ⟨x, rfl, ⟨x0, x1⟩, hc1, hg1⟩
  obtain ⟨k0, rfl⟩ := Int.eq_ofNat_of_zero_le x0
  have hk0 : k0 ≤ 1 := by omega
  have hk1 : (1 : Int) + (k0 : Int) = ((k0 + 1 : Nat) : Int) := by omega
  clear hS x0 x1
  go_wp2
  go_loopw [1, 7, 8, 9, 44, 55] (fun vt vn _ _ _ _ wr => ∃ (k : Nat) (s : ByteArray), vt = .string s ∧ vn = .int .i64 k ∧ k ≤ 2 ∧ s.size + k ≤ B + 2 ∧ Cur wr p A n c (a + 1 + 5 * (2 - k)) ∧ Hid (w.grownBy wr (some p))) (fun _ vn _ _ _ _ _ => (intOf vn).toNat)
  case atStart => exact ⟨k0 + 1, t, rfl, rfl, by omega, by omega, hc1.mono (by omega), Lib.hid hg1⟩
  case round =>
    obtain ⟨k, s, rfl, rfl, hk, hs, hc, HG⟩ := hrel
    rename World => wr
    by_cases h0 : 0 < k
    · have hI : (k : Int) > 0 := by omega
      by_cases h1 : 0 < s.size
      · have hJ : (s.size : Int) > 0 := by omega
        go_wp2_with fail
        refine (cur_pickL HS.out (G.out _ HG.out) hp hc (by omega) (by omega) (by omega)).mono ?_; rintro e w2 ⟨y, rfl, ⟨y0, y1⟩, hc2, hg2⟩
        obtain ⟨i, rfl⟩ := Int.eq_ofNat_of_zero_le y0
        have hi : i < s.size := by omega
        have HG2 := Lib.hid (grownBy_trans HG.out hg2)
        clear y0 y1 hg2 HG hc
        go_wp2_with fail
        refine (cur_pick HS.out (G.out _ HG2.out) hp hc2 (by omega) (by omega) (by omega)).mono ?_; rintro e w3 ⟨z, rfl, ⟨z0, z1⟩, hc3, hg3⟩
        obtain ⟨j, rfl⟩ := Int.eq_ofNat_of_zero_le z0
        have hj : j < v.size := by omega
        have HG3 := Lib.hid (grownBy_trans HG2.out hg3)
        clear z0 z1 hg3 HG2 hc2
        have cv : ∀ x : Int, (convert 22 9 (.slice (some ⟨w3.heap.size, 0, none⟩) 1 1)).run Tryz.prog (w3.alloc (.cells #[.int .u8 x] 5)) = .ok (.string (strOfNums [x])) (w3.alloc (.cells #[.int .u8 x] 5)) := fun x =>
          run_convert_bytes_arg _ 22 5 Tryz.underlying22 Tryz.underlying5 w3.heap.size 0 1 1 [x] rfl (fun i hi => by
            obtain rfl : i = 0 := by omega
            exact (Blk.at_ w3 5 [.int .u8 x] rfl).cell 0) 9 Tryz.underlying9
        have hbA : ∀ x : Int, Below w3.heap.size w3 (w3.alloc (.cells #[.int .u8 x] 5)) := fun x => below_alloc (Below.refl _ _) _
        go_wp2_with fail
        obtain ⟨x5, hx5⟩ : ∃ x : Int, x = ((v[j].toNat : Nat) : Int) := ⟨_, rfl⟩
        rw [← hx5]
        obtain ⟨W, hW⟩ : ∃ W, W = strOfNums [x5] := ⟨_, rfl⟩
        have hW1 : W.size = 1 := by rw [hW]; rfl
        rw [← hW]
        have hb4 := hbA x5
        obtain ⟨w4, hw4⟩ : ∃ u, u = w3.alloc (.cells #[.int .u8 x5] 5) := ⟨_, rfl⟩
        rw [← hw4] at hb4 ⊢
        have hc4 := hc3.up hb4
        have HG4 := Lib.hid (grownBy_trans HG3.out (grown_any hb4 _))
        clear cv hbA hx5 hW hw4 hc3 HG3 hb4
        refine (cur_pick HS.out (G.out _ HG4.out) hp hc4 (by omega) (by decide) (by decide)).mono ?_; rintro e w5 ⟨z, rfl, ⟨z0, z1⟩, hc5, hg5⟩
        have HG5 := Lib.hid (grownBy_trans HG4.out hg5)
        clear hg5 HG4 hc4
        have hsI : ¬ 9223372036854775807 < i + 1 := by omega
        have hsI2 : ¬ 9223372036854775807 < i + 1 + (s.size - i) := by omega
        have hsI3 : ¬ 9223372036854775807 < i + 1 + (s.size - (i + 1)) := by omega
        have hsI4 : ¬ 9223372036854775807 < i + (s.size - (i + 1)) := by omega
        have hz3 : z = 0 ∨ z = 1 ∨ z = 2 := by omega
        rcases hz3 with rfl | rfl | rfl
        · have hsz : (s.extract 0 i ++ W ++ s.extract i s.size).size + (k - 1) ≤ B + 2 := by simp only [ByteArray.size_append, ByteArray.size_extract]; omega
          clear hsI hsI2 hsI3 hsI4 z0 z1
          have hq1 : ¬ 9223372036854775807 < (s.extract 0 i).size + W.size := by simp only [ByteArray.size_extract]; omega
          go_wp2
          go_quiet (fail)
          go_wp2
          go_roundw
          case rel => exact ⟨k - 1, s.extract 0 i ++ W ++ s.extract i s.size, rfl, by go_num, by omega, hsz, (hc5.up (below_drewN (Below.refl _ _) _)).mono (by omega), Lib.hid (grownBy_trans HG5.out (grown_any (below_drewN (Below.refl _ _) _) _))⟩
          case measure => simp [intOf]; omega
        · have hsz : (s.extract 0 i ++ W ++ s.extract (i + 1) s.size).size + (k - 1) ≤ B + 2 := by simp only [ByteArray.size_append, ByteArray.size_extract]; omega
          clear hsI hsI2 hsI3 hsI4 z0 z1
          have hq1 : ¬ 9223372036854775807 < (s.extract 0 i).size + W.size := by simp only [ByteArray.size_extract]; omega
          go_wp2
          go_quiet (fail)
          go_wp2
          go_roundw
          case rel => exact ⟨k - 1, s.extract 0 i ++ W ++ s.extract (i + 1) s.size, rfl, by go_num, by omega, hsz, (hc5.up (below_drewN (Below.refl _ _) _)).mono (by omega), Lib.hid (grownBy_trans HG5.out (grown_any (below_drewN (Below.refl _ _) _) _))⟩
          case measure => simp [intOf]; omega
        · have hsz : (s.extract 0 i ++ s.extract (i + 1) s.size).size + (k - 1) ≤ B + 2 := by simp only [ByteArray.size_append, ByteArray.size_extract]; omega
          clear hsI hsI2 hsI3 hsI4 z0 z1
          have hq1 : ¬ 9223372036854775807 < (s.extract 0 i).size + W.size := by simp only [ByteArray.size_extract]; omega
          go_wp2
          go_quiet (fail)
          go_wp2
          go_roundw
          case rel => exact ⟨k - 1, s.extract 0 i ++ s.extract (i + 1) s.size, rfl, by go_num, by omega, hsz, (hc5.up (below_drewN (Below.refl _ _) _)).mono (by omega), Lib.hid (grownBy_trans HG5.out (grown_any (below_drewN (Below.refl _ _) _) _))⟩
          case measure => simp [intOf]; omega
      · have hJ : ¬ (s.size : Int) > 0 := by omega
        go_wp2
        go_ret
        exact ⟨s, rfl, by omega, hc.mono (by omega), HG.out⟩
    · have hI : ¬ (k : Int) > 0 := by omega
      go_wp2
      go_ret
      exact ⟨s, rfl, by omega, hc.mono (by omega), HG.out⟩
end Go.Proofs.YtidolgonmimicaaGreatDoor
/- The draws of FnCalling. -/
namespace Go.Proofs.YtidolgonmimicaaGreatDoor
set_option linter.unusedVariables false
set_option linter.unusedSimpArgs false
open Go.ChangeShapes Go.WideShapes Go.ChangeAt Go.RowKit Go.Deep
theorem drM_f10 {nm : ByteArray} {st : Nat} {L : List ByteArray} (h : drM nm st L) : nm.size ≤ 16777216 ∧ st ≤ 1000 ∧ L.length ≤ 1048576 ∧ (∀ s ∈ L, s.size ≤ 16777216) ∧ I64 (st : Int) := by
  obtain ⟨h1, h2, h3, h4, h5⟩ := h
  exact ⟨by omega, by omega, by omega, fun s hs => by have := h5 s hs; omega, by constructor <;> omega⟩
set_option maxHeartbeats 1000000 in
set_option maxRecDepth 100000 in
theorem draw_CallingText {A : Option Addr} {n c : Nat} {w : World} (hS : Src w A n) :
    Calls Tryz.prog 4 #[.slice A n c] w fun e w' => ∃ (nm : ByteArray) (st : Nat) (A1 : Option Addr) (n1 c1 : Nat) (L : List ByteArray) (kb ks t : ByteArray) (bl : Nat), e = .returned (.tuple #[.agg #[.string nm, .int .i64 st, .slice A1 n1 c1], .agg #[.string kb, .string ks], .string t, .int .i64 bl]) ∧ drM nm st L ∧ kb.size ≤ 8 ∧ ks.size ≤ 8 ∧ t.size ≤ 61 ∧ bl ≤ 100 ∧ Owned strE 1 9 w' w.heap.size A1 n1 c1 L ∧ Below w.heap.size w w' := by
  have R := ((Blk.at_ w 25 [.string ⟨#[]⟩, .int .i64 0, .slice none 0 0] (b := w.heap.size) rfl).alloc (.cells #[.string ⟨#[]⟩, .string ⟨#[]⟩] 27)).alloc (.cells #[.slice A n c, .int .i64 0, .int .u64 0] 36)
  have Q := (Blk.at_ (w.alloc (.cells #[.string ⟨#[]⟩, .int .i64 0, .slice none 0 0] 25)) 27 [.string ⟨#[]⟩, .string ⟨#[]⟩] (b := w.heap.size + 1) (by simp)).alloc (.cells #[.slice A n c, .int .i64 0, .int .u64 0] 36)
  have c0 := cur_fresh ((w.alloc (.cells #[.string ⟨#[]⟩, .int .i64 0, .slice none 0 0] 25)).alloc (.cells #[.string ⟨#[]⟩, .string ⟨#[]⟩] 27)) A n c
  rw [show ((w.alloc (.cells #[.string ⟨#[]⟩, .int .i64 0, .slice none 0 0] 25)).alloc (.cells #[.string ⟨#[]⟩, .string ⟨#[]⟩] 27)).heap.size = w.heap.size + 2 by simp] at c0
  have b0 : Below w.heap.size w (((w.alloc (.cells #[.string ⟨#[]⟩, .int .i64 0, .slice none 0 0] 25)).alloc (.cells #[.string ⟨#[]⟩, .string ⟨#[]⟩] 27)).alloc (.cells #[.slice A n c, .int .i64 0, .int .u64 0] 36)) := by (repeat' (first | (with_reducible exact Below.refl _ _) | (with_reducible assumption) | (with_reducible refine below_drewN ?_ _) | (with_reducible refine Below.drew ?_) | (with_reducible refine below_alloc ?_ _) | (with_reducible refine Below.alloc ?_ ?_ _) | (with_reducible refine Below.setCell ?_ ?_ _) | (with_reducible refine below_go ?_ (by with_reducible assumption)) | (with_reducible refine below_then (by with_reducible assumption) ?_ ?_) | go_size))
  have HS := Lib.hid hS
  have hp0 : w.heap.size ≤ w.heap.size + 2 := by omega
  clear hS
  go_in
  go_wp2_with fail
  obtain ⟨w1, hw1⟩ : ∃ u, u = (((w.alloc (.cells #[.string ⟨#[]⟩, .int .i64 0, .slice none 0 0] 25)).alloc (.cells #[.string ⟨#[]⟩, .string ⟨#[]⟩] 27)).alloc (.cells #[.slice A n c, .int .i64 0, .int .u64 0] 36)) := ⟨_, rfl⟩
  have z1 : w1.heap.size = w.heap.size + 3 := by rw [hw1]; simp
  rw [← hw1] at b0 R Q c0 ⊢
  clear hw1
  refine (cur_anyMethod HS.out b0 hp0 c0 (by omega)).mono ?_; rintro e w2 ⟨nm, st, A2, m, c2, L, rfl, hdr, ho2, hc2, hg2⟩
  have s2 := hg2.size
  have K := Blk.at_ w2 25 [.string nm, .int .i64 (st : Int), .slice A2 m c2] (b := w2.heap.size) rfl
  replace R := R.grown hg2 (fun e => by injection e with e; omega)
  replace Q := Q.grown hg2 (fun e => by injection e with e; omega)
  have HO := Lib.hid ho2
  have HB := Lib.hid (grown_below b0 hp0 hg2)
  have HC := Lib.hid hc2
  have HDR := Lib.hid hdr
  have hdf := drM_f10 hdr
  have HLl := Lib.hid ho2.len
  have a2 : Below w2.heap.size w2 (w2.alloc (.cells #[.string nm, .int .i64 (st : Int), .slice A2 m c2] 25)) := by (repeat' (first | (with_reducible exact Below.refl _ _) | (with_reducible assumption) | (with_reducible refine below_drewN ?_ _) | (with_reducible refine Below.drew ?_) | (with_reducible refine below_alloc ?_ _) | (with_reducible refine Below.alloc ?_ ?_ _) | (with_reducible refine Below.setCell ?_ ?_ _) | (with_reducible refine below_go ?_ (by with_reducible assumption)) | (with_reducible refine below_then (by with_reducible assumption) ?_ ?_) | go_size))
  replace R := R.up a2
  replace Q := Q.up a2
  replace HO := Lib.hid (HO.out.up a2)
  replace HC := Lib.hid (HC.out.up a2)
  replace HB := Lib.hid (below_go HB.out a2)
  rw [z1] at HO
  obtain ⟨b, hb⟩ : ∃ b, b = w2.heap.size := ⟨_, rfl⟩
  have hbz : w.heap.size + 3 ≤ b := by omega
  clear c0 b0 ho2 hc2 hg2 hdr a2 s2
  go_upto_region 3 with fail
  obtain ⟨w3, hw3⟩ : ∃ u, u = w2.alloc (.cells #[.string nm, .int .i64 (st : Int), .slice A2 m c2] 25) := ⟨_, rfl⟩
  rw [← hw3] at K R Q HO HC HB ⊢
  rw [← hb] at K ⊢
  clear hw3 hb z1
  have kc0 := K.cell 0; have kc1 := K.cell 1; have kc2 := K.cell 2
  simp only [List.getElem?_cons_zero, List.getElem?_cons_succ] at kc0 kc1 kc2
  go_wp2_with fail
  have hb3 := K.lt
  refine (cur_anyCalls HS.out HB.out hp0 HC.out (by omega) HLl.out HO.out.recs (by have := HLl.out; omega) hdf.2.2.2.1 hdf.1 hdf.2.2.2.2).mono ?_; rintro e w4 ⟨kb, ks, rfl, zkb, zks, hc4, hg4⟩
  have s4 := hg4.size
  clear kc0 kc1 kc2
  replace K := K.grown hg4 (fun e => by injection e with e; omega)
  replace R := R.grown hg4 (fun e => by injection e with e; omega)
  replace Q := Q.grown hg4 (fun e => by injection e with e; omega)
  replace HO := Lib.hid (HO.out.past hg4 (by omega))
  replace HB := Lib.hid (grown_below HB.out hp0 hg4)
  replace HC := Lib.hid hc4
  clear hg4 hc4
  have J := Blk.at_ w4 27 [.string kb, .string ks] (b := w4.heap.size) rfl
  have a4 : Below w4.heap.size w4 (w4.alloc (.cells #[.string kb, .string ks] 27)) := by (repeat' (first | (with_reducible exact Below.refl _ _) | (with_reducible assumption) | (with_reducible refine below_drewN ?_ _) | (with_reducible refine Below.drew ?_) | (with_reducible refine below_alloc ?_ _) | (with_reducible refine Below.alloc ?_ ?_ _) | (with_reducible refine Below.setCell ?_ ?_ _) | (with_reducible refine below_go ?_ (by with_reducible assumption)) | (with_reducible refine below_then (by with_reducible assumption) ?_ ?_) | go_size))
  replace K := K.up a4
  replace R := R.up a4
  replace Q := Q.up a4
  replace HO := Lib.hid (HO.out.up a4)
  replace HC := Lib.hid (HC.out.up a4)
  replace HB := Lib.hid (below_go HB.out a4)
  obtain ⟨d, hd⟩ : ∃ b, b = w4.heap.size := ⟨_, rfl⟩
  have hdz : b < d := by omega
  clear a4 s4
  go_upto_region 4 with fail
  obtain ⟨w5, hw5⟩ : ∃ u, u = w4.alloc (.cells #[.string kb, .string ks] 27) := ⟨_, rfl⟩
  rw [← hw5] at K J R Q HO HC HB ⊢
  rw [← hd] at J ⊢
  clear hw5 hd
  go_wp2_with fail
  have hd3 := J.lt
  refine (cur_anyTouch HS.out HB.out hp0 HC.out (by omega)).mono ?_; rintro e w6 ⟨t, rfl, hts, hc6, hg6⟩
  have s6 := hg6.size
  replace K := K.grown hg6 (fun e => by injection e with e; omega)
  replace J := J.grown hg6 (fun e => by injection e with e; omega)
  replace R := R.grown hg6 (fun e => by injection e with e; omega)
  replace Q := Q.grown hg6 (fun e => by injection e with e; omega)
  replace HO := Lib.hid (HO.out.past hg6 (by omega))
  replace HB := Lib.hid (grown_below HB.out hp0 hg6)
  replace HC := Lib.hid hc6
  clear hg6 hc6
  have carO : Hid (∀ u : World, w6.grownBy u (some (w.heap.size + 2)) → u.cell? ⟨b, 0, none⟩ = some (.string nm) ∧ u.cell? ⟨b, 1, none⟩ = some (.int .i64 (st : Int)) ∧ u.cell? ⟨b, 2, none⟩ = some (.slice A2 m c2) ∧ u.cell? ⟨d, 0, none⟩ = some (.string kb) ∧ u.cell? ⟨d, 1, none⟩ = some (.string ks)) := Lib.hid (fun u hu => by
    have L0 := K.grown hu (fun e => by injection e with e; omega)
    have L1 := J.grown hu (fun e => by injection e with e; omega)
    exact ⟨by simpa using L0.cell 0, by simpa using L0.cell 1, by simpa using L0.cell 2, by simpa using L1.cell 0, by simpa using L1.cell 1⟩)
  have C0 : w6.grownBy w6.drew (some (w.heap.size + 2)) := grown_any (Below.refl _ _).drew _
  go_upto_region 5 with fail
  refine wp_region_held_drew (S := fun u => u.cell? ⟨b, 0, none⟩ = some (.string nm) ∧ u.cell? ⟨b, 1, none⟩ = some (.int .i64 (st : Int)) ∧ u.cell? ⟨b, 2, none⟩ = some (.slice A2 m c2) ∧ u.cell? ⟨d, 0, none⟩ = some (.string kb) ∧ u.cell? ⟨d, 1, none⟩ = some (.string ks)) (by kernel_rfl) (carO.out _ C0) (fun hHeld => ?_)
  refine wpAnyH_take (i := 0) (oi := { dst := some 20, op := _, type := _, pos := _, after := _, guard := _ }) (v := ?_) rfl (by kernel_rfl) (by kernel_rfl) (by kernel_rfl) (fun _ _ _ h => h) (Or.inl ⟨by rfl, ?_⟩) (by assumption) ?_
  rotate_left
  · (intro w hSw; (try dsimp only at hSw); go_simp) <;> with_reducible rfl
  (try simp only [Act.put, List.setIfInBounds_toArray, List.set_cons_zero, List.set_cons_succ])
  refine wpAnyH_take (i := 1) (oi := { dst := some 21, op := _, type := _, pos := _, after := _, guard := _ }) (v := ?_) rfl (by kernel_rfl) (by kernel_rfl) (by kernel_rfl) (fun _ _ _ h => h) (Or.inl ⟨by rfl, ?_⟩) (by assumption) ?_
  rotate_left
  · (intro w hSw; (try dsimp only at hSw); go_simp) <;> with_reducible rfl
  (try simp only [Act.put, List.setIfInBounds_toArray, List.set_cons_zero, List.set_cons_succ])
  refine wpAnyH_take (i := 2) (oi := { dst := some 22, op := _, type := _, pos := _, after := _, guard := _ }) (v := ?_) rfl (by kernel_rfl) (by kernel_rfl) (by kernel_rfl) (fun _ _ _ h => h) (Or.inl ⟨by rfl, ?_⟩) (by assumption) ?_
  rotate_left
  · (intro w hSw; (try dsimp only at hSw); go_simp) <;> with_reducible rfl
  (try simp only [Act.put, List.setIfInBounds_toArray, List.set_cons_zero, List.set_cons_succ])
  refine wpAnyH_take (i := 3) (oi := { dst := some 23, op := _, type := _, pos := _, after := _, guard := _ }) (v := ?_) rfl (by kernel_rfl) (by kernel_rfl) (by kernel_rfl) (fun _ _ _ h => h) (Or.inl ⟨by rfl, ?_⟩) (by assumption) ?_
  rotate_left
  · (intro w hSw; (try dsimp only at hSw); go_simp) <;> with_reducible rfl
  (try simp only [Act.put, List.setIfInBounds_toArray, List.set_cons_zero, List.set_cons_succ])
  refine wpAnyH_ready (rs := [4]) (by kernel_rfl) (by simp) ?_
  refine AllReadyH.cons (o := _) rfl (fun K hK => ?_) AllReadyH.nil
  go_simp
  refine (cur_pick HS.out (grown_below HB.out hp0 C0) hp0 (HC.out.up (Below.refl _ _).drew) (by omega) (by decide) (by decide)).mono ?_; rintro e w7 ⟨x, rfl, ⟨x0, x1⟩, hc7, hg7⟩
  have hg7 := grownBy_trans C0 hg7
  try go_wp2_with fail
  refine hK.out _ _ (carO.out _ hg7) (fun hHeld => ?_)
  clear hK K
  (try simp only [Act.put, List.setIfInBounds_toArray, List.set_cons_zero, List.set_cons_succ])
  obtain ⟨X, rfl⟩ := Int.eq_ofNat_of_zero_le x0
  have hX : X ≤ 7 := by omega
  clear x0 x1 carO C0
  replace K := K.grown hg7 (fun e => by injection e with e; omega)
  replace J := J.grown hg7 (fun e => by injection e with e; omega)
  replace R := R.grown hg7 (fun e => by injection e with e; omega)
  replace Q := Q.grown hg7 (fun e => by injection e with e; omega)
  replace HO := Lib.hid (HO.out.past hg7 (by omega))
  replace HB := Lib.hid (grown_below HB.out hp0 hg7)
  replace HC := Lib.hid hc7
  clear hg7 hc7
  have rc0 := R.cell 0; have rc1 := R.cell 1; have rc2 := R.cell 2
  have rf0 := R.frozen 0; have rf1 := R.frozen 1; have rf2 := R.frozen 2
  have yc0 := Q.cell 0; have yc1 := Q.cell 1
  have yf0 := Q.frozen 0; have yf1 := Q.frozen 1
  simp only [List.getElem?_cons_zero, List.getElem?_cons_succ] at rc0 rc1 rc2 yc0 yc1
  have cS : Hid (∀ u : World, Blk u b 25 [.string nm, .int .i64 (st : Int), .slice A2 m c2] → Blk u d 27 [.string kb, .string ks] → u.cell? ⟨b, 0, none⟩ = some (.string nm) ∧ u.cell? ⟨b, 1, none⟩ = some (.int .i64 (st : Int)) ∧ u.cell? ⟨b, 2, none⟩ = some (.slice A2 m c2) ∧ u.cell? ⟨d, 0, none⟩ = some (.string kb) ∧ u.cell? ⟨d, 1, none⟩ = some (.string ks)) := Lib.hid (fun u L0 L1 => ⟨by simpa using L0.cell 0, by simpa using L0.cell 1, by simpa using L0.cell 2, by simpa using L1.cell 0, by simpa using L1.cell 1⟩)
  have q1 := sets3_grown w7 w.heap.size (.string nm) (.int .i64 (st : Int)) (.slice A2 m c2)
  have R1 := ((R.set_ 0 (.string nm)).set_ 1 (.int .i64 (st : Int))).set_ 2 (.slice A2 m c2)
  have Y1 := Q.grown q1 (fun e => by injection e with e; omega)
  have K1 := K.grown q1 (fun e => by injection e with e; omega)
  have J1 := J.grown q1 (fun e => by injection e with e; omega)
  have hbs := HB.out.size
  have HB1 := Lib.hid (HB.out.grown q1 hbs (fun k e => by injection e with e; omega))
  have HO1 := Lib.hid (HO.out.past q1 (by omega))
  obtain ⟨wA, hwA⟩ : ∃ u, u = ((w7.setCell ⟨w.heap.size, 0, none⟩ (.string nm)).setCell ⟨w.heap.size, 1, none⟩ (.int .i64 (st : Int))).setCell ⟨w.heap.size, 2, none⟩ (.slice A2 m c2) := ⟨_, rfl⟩
  rw [← hwA] at R1 Y1 K1 J1 HB1 HO1
  refine wpAnyH_ready (rs := [5]) (by kernel_rfl) (by simp) ?_
  refine AllReadyH.cons (o := _) rfl (fun K0 hK0 => ?_) AllReadyH.nil
  go_simp
  try rw [← hwA]
  refine hK0.out _ _ (cS.out _ K1 J1) (fun hHeld1 => ?_)
  clear hK0 K0 rc0 rc1 rc2 rf0 rf1 rf2 yc0 yc1 yf0 yf1 R Q K J hHeld hwA q1
  (try simp only [Act.put, List.setIfInBounds_toArray, List.set_cons_zero, List.set_cons_succ])
  have yc0 := Y1.cell 0; have yc1 := Y1.cell 1
  have yf0 := Y1.frozen 0; have yf1 := Y1.frozen 1
  simp only [List.getElem?_cons_zero, List.getElem?_cons_succ] at yc0 yc1
  have q2 := sets2_grown wA (w.heap.size + 1) (.string kb) (.string ks)
  have R2 := R1.grown q2 (fun e => by injection e with e; omega)
  have Y2 := (Y1.set_ 0 (.string kb)).set_ 1 (.string ks)
  have K2 := K1.grown q2 (fun e => by injection e with e; omega)
  have J2 := J1.grown q2 (fun e => by injection e with e; omega)
  have HB2 := Lib.hid (HB1.out.grown q2 HB1.out.size (fun k e => by injection e with e; omega))
  have HO2 := Lib.hid (HO1.out.past q2 (by omega))
  obtain ⟨wB, hwB⟩ : ∃ u, u = (wA.setCell ⟨w.heap.size + 1, 0, none⟩ (.string kb)).setCell ⟨w.heap.size + 1, 1, none⟩ (.string ks) := ⟨_, rfl⟩
  rw [← hwB] at R2 Y2 K2 J2 HB2 HO2
  refine wpAnyH_ready (rs := [6]) (by kernel_rfl) (by simp) ?_
  refine AllReadyH.cons (o := _) rfl (fun K0 hK0 => ?_) AllReadyH.nil
  go_simp
  try rw [← hwB]
  refine hK0.out _ _ (cS.out _ K2 J2) (fun hHeld2 => ?_)
  clear hK0 K0 yc0 yc1 yf0 yf1 hHeld1 hwB q2
  (try simp only [Act.put, List.setIfInBounds_toArray, List.set_cons_zero, List.set_cons_succ])
  refine wpAnyH_ready (rs := [7]) (by kernel_rfl) (by simp) ?_
  refine AllReadyH.cons (o := _) rfl (fun K0 hK0 => ?_) AllReadyH.nil
  go_simp
  refine hK0.out _ _ (cS.out _ K2 J2) (fun hHeld3 => ?_)
  clear hK0 K0 hHeld3
  (try simp only [Act.put, List.setIfInBounds_toArray, List.set_cons_zero, List.set_cons_succ])
  refine wpAnyH_ready (rs := [8]) (by kernel_rfl) (by simp) ?_
  refine AllReadyH.cons (o := _) rfl (fun K0 hK0 => ?_) AllReadyH.nil
  go_simp
  refine hK0.out _ _ (cS.out _ K2 J2) (fun hHeld3 => ?_)
  clear hK0 K0 hHeld3
  (try simp only [Act.put, List.setIfInBounds_toArray, List.set_cons_zero, List.set_cons_succ])
  refine wpAnyH_done (by kernel_rfl) ?_ _
  (try simp only [Act.put, List.setIfInBounds_toArray, List.set_cons_zero, List.set_cons_succ])
  have u0 := R2.cell 0; have u1 := R2.cell 1; have u2 := R2.cell 2
  have v0 := Y2.cell 0; have v1 := Y2.cell 1
  simp only [List.set_cons_zero, List.set_cons_succ, List.getElem?_cons_zero, List.getElem?_cons_succ] at u0 u1 u2 v0 v1
  clear R1 R2 Y1 Y2 K1 J1 K2 J2 HC HB1 HO1
  go_wp2_with fail
  refine bodyPost_ret (v := .tuple #[.agg #[.string nm, .int .i64 (st : Int), .slice A2 m c2], .agg #[.string kb, .string ks], .string t, .int .i64 (X : Nat)]) (by simp [results, Tryz.results4, go_sem, u0, u1, u2, v0, v1]) rfl ?_
  exact ⟨nm, st, A2, m, c2, L, kb, ks, t, X, rfl, HDR.out, zkb, zks, (by omega), (by omega), HO2.out.base_le (by omega), HB2.out⟩
end Go.Proofs.YtidolgonmimicaaGreatDoor
/- The draw of texts of callings. -/
namespace Go.Proofs.YtidolgonmimicaaGreatDoor
set_option linter.unusedVariables false
set_option linter.unusedSimpArgs false
open Go.ChangeShapes Go.WideShapes Go.ChangeAt Go.RowKit Go.Deep
theorem drM_of {nm : ByteArray} {st m : Nat} {L : List ByteArray} (h : goodM nm (st : Int) L = true) (h3 : 3 ≤ st) (h6 : st ≤ 6) (hl : L.length = m) (hm : m ≤ 12) : drM nm st L := by
  have := goodM_name h
  exact ⟨by omega, by omega, by omega, by omega, goodM_changes h⟩
set_option maxHeartbeats 4000000 in
set_option maxRecDepth 100000 in
theorem draw_ReadCalling {A : Option Addr} {n c : Nat} {w : World} (hS : Src w A n) :
    Calls Tryz.prog 7 #[.slice A n c] w fun e w' => ∃ (nm : ByteArray) (st : Nat) (A1 : Option Addr) (n1 c1 : Nat) (L : List ByteArray) (kb ks t : ByteArray) (bl : Nat), e = .returned (.tuple #[.agg #[.string nm, .int .i64 st, .slice A1 n1 c1], .agg #[.string kb, .string ks], .string t, .int .i64 bl]) ∧ drM nm st L ∧ kb.size ≤ 8 ∧ ks.size ≤ 8 ∧ t.size ≤ 600 ∧ bl ≤ 100 ∧ Owned strE 1 9 w' w.heap.size A1 n1 c1 L ∧ Below w.heap.size w w' := by
  have R := ((Blk.at_ w 25 [.string ⟨#[]⟩, .int .i64 0, .slice none 0 0] (b := w.heap.size) rfl).alloc (.cells #[.string ⟨#[]⟩, .string ⟨#[]⟩] 27)).alloc (.cells #[.slice A n c, .int .i64 0, .int .u64 0] 36)
  have Q := (Blk.at_ (w.alloc (.cells #[.string ⟨#[]⟩, .int .i64 0, .slice none 0 0] 25)) 27 [.string ⟨#[]⟩, .string ⟨#[]⟩] (b := w.heap.size + 1) (by simp)).alloc (.cells #[.slice A n c, .int .i64 0, .int .u64 0] 36)
  have c0 := cur_fresh ((w.alloc (.cells #[.string ⟨#[]⟩, .int .i64 0, .slice none 0 0] 25)).alloc (.cells #[.string ⟨#[]⟩, .string ⟨#[]⟩] 27)) A n c
  rw [show ((w.alloc (.cells #[.string ⟨#[]⟩, .int .i64 0, .slice none 0 0] 25)).alloc (.cells #[.string ⟨#[]⟩, .string ⟨#[]⟩] 27)).heap.size = w.heap.size + 2 by simp] at c0
  have b0 : Below w.heap.size w (((w.alloc (.cells #[.string ⟨#[]⟩, .int .i64 0, .slice none 0 0] 25)).alloc (.cells #[.string ⟨#[]⟩, .string ⟨#[]⟩] 27)).alloc (.cells #[.slice A n c, .int .i64 0, .int .u64 0] 36)) := by (repeat' (first | (with_reducible exact Below.refl _ _) | (with_reducible assumption) | (with_reducible refine below_drewN ?_ _) | (with_reducible refine Below.drew ?_) | (with_reducible refine below_alloc ?_ _) | (with_reducible refine Below.alloc ?_ ?_ _) | (with_reducible refine Below.setCell ?_ ?_ _) | (with_reducible refine below_go ?_ (by with_reducible assumption)) | (with_reducible refine below_then (by with_reducible assumption) ?_ ?_) | go_size))
  have HS := Lib.hid hS
  have hp0 : w.heap.size ≤ w.heap.size + 2 := by omega
  clear hS
  go_in
  go_wp2_with fail
  obtain ⟨w1, hw1⟩ : ∃ u, u = (((w.alloc (.cells #[.string ⟨#[]⟩, .int .i64 0, .slice none 0 0] 25)).alloc (.cells #[.string ⟨#[]⟩, .string ⟨#[]⟩] 27)).alloc (.cells #[.slice A n c, .int .i64 0, .int .u64 0] 36)) := ⟨_, rfl⟩
  have z1 : w1.heap.size = w.heap.size + 3 := by rw [hw1]; simp
  rw [← hw1] at b0 R Q c0 ⊢
  clear hw1
  refine (cur_method HS.out b0 hp0 c0 (by omega)).mono ?_; rintro e w2 ⟨nm, st, A2, m, c2, L, rfl, hgm, h3, h6, hm12, ho2, hc2, hg2⟩
  have s2 := hg2.size
  have K := Blk.at_ w2 25 [.string nm, .int .i64 (st : Int), .slice A2 m c2] (b := w2.heap.size) rfl
  replace R := R.grown hg2 (fun e => by injection e with e; omega)
  replace Q := Q.grown hg2 (fun e => by injection e with e; omega)
  have HO := Lib.hid ho2
  have HB := Lib.hid (grown_below b0 hp0 hg2)
  have HC := Lib.hid hc2
  have hdr : drM nm st L := drM_of hgm h3 h6 ho2.len hm12
  have HDR := Lib.hid hdr
  have hdf := drM_f10 hdr
  have HGM := Lib.hid hgm
  have HLl := Lib.hid ho2.len
  have a2 : Below w2.heap.size w2 (w2.alloc (.cells #[.string nm, .int .i64 (st : Int), .slice A2 m c2] 25)) := by (repeat' (first | (with_reducible exact Below.refl _ _) | (with_reducible assumption) | (with_reducible refine below_drewN ?_ _) | (with_reducible refine Below.drew ?_) | (with_reducible refine below_alloc ?_ _) | (with_reducible refine Below.alloc ?_ ?_ _) | (with_reducible refine Below.setCell ?_ ?_ _) | (with_reducible refine below_go ?_ (by with_reducible assumption)) | (with_reducible refine below_then (by with_reducible assumption) ?_ ?_) | go_size))
  replace R := R.up a2
  replace Q := Q.up a2
  replace HO := Lib.hid (HO.out.up a2)
  replace HC := Lib.hid (HC.out.up a2)
  replace HB := Lib.hid (below_go HB.out a2)
  rw [z1] at HO
  obtain ⟨b, hb⟩ : ∃ b, b = w2.heap.size := ⟨_, rfl⟩
  have hbz : w.heap.size + 3 ≤ b := by omega
  clear c0 b0 ho2 hc2 hg2 hdr a2 s2
  go_upto_region 3 with fail
  obtain ⟨w3, hw3⟩ : ∃ u, u = w2.alloc (.cells #[.string nm, .int .i64 (st : Int), .slice A2 m c2] 25) := ⟨_, rfl⟩
  rw [← hw3] at K R Q HO HC HB ⊢
  rw [← hb] at K ⊢
  clear hw3 hb z1
  have kc0 := K.cell 0; have kc1 := K.cell 1; have kc2 := K.cell 2
  simp only [List.getElem?_cons_zero, List.getElem?_cons_succ] at kc0 kc1 kc2
  go_wp2_with fail
  have hb3 := K.lt
  refine (cur_anyCalls HS.out HB.out hp0 HC.out (by omega) HLl.out HO.out.recs (by have := HLl.out; omega) hdf.2.2.2.1 hdf.1 hdf.2.2.2.2).mono ?_; rintro e w4 ⟨kb, ks, rfl, zkb, zks, hc4, hg4⟩
  have s4 := hg4.size
  clear kc0 kc1 kc2
  replace K := K.grown hg4 (fun e => by injection e with e; omega)
  replace R := R.grown hg4 (fun e => by injection e with e; omega)
  replace Q := Q.grown hg4 (fun e => by injection e with e; omega)
  replace HO := Lib.hid (HO.out.past hg4 (by omega))
  replace HB := Lib.hid (grown_below HB.out hp0 hg4)
  replace HC := Lib.hid hc4
  clear hg4 hc4
  have J := Blk.at_ w4 27 [.string kb, .string ks] (b := w4.heap.size) rfl
  have a4 : Below w4.heap.size w4 (w4.alloc (.cells #[.string kb, .string ks] 27)) := by (repeat' (first | (with_reducible exact Below.refl _ _) | (with_reducible assumption) | (with_reducible refine below_drewN ?_ _) | (with_reducible refine Below.drew ?_) | (with_reducible refine below_alloc ?_ _) | (with_reducible refine Below.alloc ?_ ?_ _) | (with_reducible refine Below.setCell ?_ ?_ _) | (with_reducible refine below_go ?_ (by with_reducible assumption)) | (with_reducible refine below_then (by with_reducible assumption) ?_ ?_) | go_size))
  replace K := K.up a4
  replace R := R.up a4
  replace Q := Q.up a4
  replace HO := Lib.hid (HO.out.up a4)
  replace HC := Lib.hid (HC.out.up a4)
  replace HB := Lib.hid (below_go HB.out a4)
  obtain ⟨d, hd⟩ : ∃ b, b = w4.heap.size := ⟨_, rfl⟩
  have hdz : b < d := by omega
  clear a4 s4
  go_upto_region 4 with fail
  obtain ⟨w5, hw5⟩ : ∃ u, u = w4.alloc (.cells #[.string kb, .string ks] 27) := ⟨_, rfl⟩
  rw [← hw5] at K J R Q HO HC HB ⊢
  rw [← hd] at J ⊢
  clear hw5 hd
  have kc0 := K.cell 0; have kc1 := K.cell 1; have kc2 := K.cell 2
  simp only [List.getElem?_cons_zero, List.getElem?_cons_succ] at kc0 kc1 kc2
  go_wp2_with fail
  have hd3 := J.lt
  refine (cur_pick HS.out HB.out hp0 HC.out (by omega) (by omega) (by omega)).mono ?_; rintro e w6 ⟨x, rfl, ⟨x0, x1⟩, hc6, hg6⟩
  have s6 := hg6.size
  obtain ⟨bl, hbl⟩ : ∃ q : Nat, (1 : Int) + x = (q : Int) := ⟨(1 + x).toNat, by omega⟩
  have hbl8 : bl ≤ 100 := by omega
  clear kc0 kc1 kc2 x0
  replace K := K.grown hg6 (fun e => by injection e with e; omega)
  replace J := J.grown hg6 (fun e => by injection e with e; omega)
  replace R := R.grown hg6 (fun e => by injection e with e; omega)
  replace Q := Q.grown hg6 (fun e => by injection e with e; omega)
  replace HO := Lib.hid (HO.out.past hg6 (by omega))
  replace HB := Lib.hid (grown_below HB.out hp0 hg6)
  replace HC := Lib.hid hc6
  clear hg6 hc6
  go_upto_region 6 with fail
  (try rw [hbl])
  have kc0 := K.cell 0; have kc1 := K.cell 1; have kc2 := K.cell 2
  simp only [List.getElem?_cons_zero, List.getElem?_cons_succ] at kc0 kc1 kc2
  have jc0 := J.cell 0; have jc1 := J.cell 1
  simp only [List.getElem?_cons_zero, List.getElem?_cons_succ] at jc0 jc1
  go_wp2_with fail
  refine (spec_l8Good (nm := nm) (st := (st : Int)) HLl.out HO.out.recs (by have := HLl.out; omega) hdf.2.2.2.1 hdf.1 hdf.2.2.2.2 (by omega) (by omega)).mono ?_; rintro e w7 ⟨rfl, hb7⟩
  clear kc0 kc1 kc2 jc0 jc1
  replace K := K.up hb7
  replace J := J.up hb7
  replace R := R.up hb7
  replace Q := Q.up hb7
  replace HO := Lib.hid (HO.out.up hb7)
  replace HC := Lib.hid (HC.out.up hb7)
  replace HB := Lib.hid (below_go HB.out hb7)
  clear hb7
  have T0 : (⟨#[112, 49]⟩ : ByteArray).size ≤ 550 := by decide
  rcases hgk : goodK nm (st : Int) L kb ks
  · skip
    go_wp2_with fail
    refine (cur_one HS.out HB.out hp0 HC.out (by omega) (by decide) (by decide)).mono ?_; rintro e w10 ⟨q1, rfl, hc10, hg10⟩
    have s10 := hg10.size
    replace K := K.grown hg10 (fun e => by injection e with e; omega)
    replace J := J.grown hg10 (fun e => by injection e with e; omega)
    replace R := R.grown hg10 (fun e => by injection e with e; omega)
    replace Q := Q.grown hg10 (fun e => by injection e with e; omega)
    replace HO := Lib.hid (HO.out.past hg10 (by omega))
    replace HB := Lib.hid (grown_below HB.out hp0 hg10)
    replace HC := Lib.hid hc10
    clear hg10 hc10
    rcases q1
    · skip
      go_wp2_with fail
      refine (cur_one HS.out HB.out hp0 HC.out (by omega) (by decide) (by decide)).mono ?_; rintro e w12 ⟨q2, rfl, hc12, hg12⟩
      have s12 := hg12.size
      replace K := K.grown hg12 (fun e => by injection e with e; omega)
      replace J := J.grown hg12 (fun e => by injection e with e; omega)
      replace R := R.grown hg12 (fun e => by injection e with e; omega)
      replace Q := Q.grown hg12 (fun e => by injection e with e; omega)
      replace HO := Lib.hid (HO.out.past hg12 (by omega))
      replace HB := Lib.hid (grown_below HB.out hp0 hg12)
      replace HC := Lib.hid hc12
      clear hg12 hc12
      rcases q2
      · skip
        have kc0 := K.cell 0; have kc1 := K.cell 1; have kc2 := K.cell 2
        simp only [List.getElem?_cons_zero, List.getElem?_cons_succ] at kc0 kc1 kc2
        have jc0 := J.cell 0; have jc1 := J.cell 1
        simp only [List.getElem?_cons_zero, List.getElem?_cons_succ] at jc0 jc1
        have rc0 := R.cell 0; have rc1 := R.cell 1; have rc2 := R.cell 2
        have rf0 := R.frozen 0; have rf1 := R.frozen 1; have rf2 := R.frozen 2
        have yc0 := Q.cell 0; have yc1 := Q.cell 1
        have yf0 := Q.frozen 0; have yf1 := Q.frozen 1
        simp only [List.getElem?_cons_zero, List.getElem?_cons_succ] at rc0 rc1 rc2 yc0 yc1
        have q1 := sets3_grown w12 w.heap.size (.string nm) (.int .i64 (st : Int)) (.slice A2 m c2)
        have R1 := ((R.set_ 0 (.string nm)).set_ 1 (.int .i64 (st : Int))).set_ 2 (.slice A2 m c2)
        have Y1 := Q.grown q1 (fun e => by injection e with e; omega)
        have q2 := sets2_grown (((w12.setCell ⟨w.heap.size, 0, none⟩ (.string nm)).setCell ⟨w.heap.size, 1, none⟩ (.int .i64 (st : Int))).setCell ⟨w.heap.size, 2, none⟩ (.slice A2 m c2)) (w.heap.size + 1) (.string kb) (.string ks)
        have R2 := R1.grown q2 (fun e => by injection e with e; omega)
        have Y2 := (Y1.set_ 0 (.string kb)).set_ 1 (.string ks)
        have u0 := R2.cell 0; have u1 := R2.cell 1; have u2 := R2.cell 2
        have v0 := Y2.cell 0; have v1 := Y2.cell 1
        simp only [List.set_cons_zero, List.set_cons_succ, List.getElem?_cons_zero, List.getElem?_cons_succ] at u0 u1 u2 v0 v1
        have hbs := HB.out.size
        have HB1 := Lib.hid (HB.out.grown q1 hbs (fun k e => by injection e with e; omega))
        have HB2 := Lib.hid (HB1.out.grown q2 HB1.out.size (fun k e => by injection e with e; omega))
        have HO2 := Lib.hid ((HO.out.past q1 (by omega)).past q2 (by omega))
        clear R1 R2 Y1 Y2 K J R Q HC q1 q2
        have ne1 : ¬ w.heap.size = w.heap.size + 1 := by omega
        have ne2 : ¬ w.heap.size + 1 = w.heap.size := by omega
        go_upto_region 12 with fail
        go_region
        go_wp2_with fail
        refine bodyPost_ret (v := .tuple #[.agg #[.string nm, .int .i64 (st : Int), .slice A2 m c2], .agg #[.string kb, .string ks], .string ⟨#[112, 49]⟩, .int .i64 (bl : Nat)]) (by simp [results, Tryz.results7, go_sem, u0, u1, u2, v0, v1]) rfl ?_
        exact ⟨nm, st, A2, m, c2, L, kb, ks, ⟨#[112, 49]⟩, bl, rfl, HDR.out, zkb, zks, (by omega), (by omega), (HO2.out.drewN 1).base_le (by omega), (below_drewN HB2.out 1)⟩
      · go_wp2_with fail
        refine (cur_pick HS.out HB.out hp0 HC.out (by omega) (by decide) (by decide)).mono ?_; rintro e w13 ⟨y, rfl, ⟨y0, y1⟩, hc13, hg13⟩
        have s13 := hg13.size
        obtain ⟨Y, rfl⟩ := Int.eq_ofNat_of_zero_le y0
        have hY : Y ≤ 100 := by omega
        clear y0 y1
        replace K := K.grown hg13 (fun e => by injection e with e; omega)
        replace J := J.grown hg13 (fun e => by injection e with e; omega)
        replace R := R.grown hg13 (fun e => by injection e with e; omega)
        replace Q := Q.grown hg13 (fun e => by injection e with e; omega)
        replace HO := Lib.hid (HO.out.past hg13 (by omega))
        replace HB := Lib.hid (grown_below HB.out hp0 hg13)
        replace HC := Lib.hid hc13
        clear hg13 hc13
        have kc0 := K.cell 0; have kc1 := K.cell 1; have kc2 := K.cell 2
        simp only [List.getElem?_cons_zero, List.getElem?_cons_succ] at kc0 kc1 kc2
        have jc0 := J.cell 0; have jc1 := J.cell 1
        simp only [List.getElem?_cons_zero, List.getElem?_cons_succ] at jc0 jc1
        have rc0 := R.cell 0; have rc1 := R.cell 1; have rc2 := R.cell 2
        have rf0 := R.frozen 0; have rf1 := R.frozen 1; have rf2 := R.frozen 2
        have yc0 := Q.cell 0; have yc1 := Q.cell 1
        have yf0 := Q.frozen 0; have yf1 := Q.frozen 1
        simp only [List.getElem?_cons_zero, List.getElem?_cons_succ] at rc0 rc1 rc2 yc0 yc1
        have q1 := sets3_grown w13 w.heap.size (.string nm) (.int .i64 (st : Int)) (.slice A2 m c2)
        have R1 := ((R.set_ 0 (.string nm)).set_ 1 (.int .i64 (st : Int))).set_ 2 (.slice A2 m c2)
        have Y1 := Q.grown q1 (fun e => by injection e with e; omega)
        have q2 := sets2_grown (((w13.setCell ⟨w.heap.size, 0, none⟩ (.string nm)).setCell ⟨w.heap.size, 1, none⟩ (.int .i64 (st : Int))).setCell ⟨w.heap.size, 2, none⟩ (.slice A2 m c2)) (w.heap.size + 1) (.string kb) (.string ks)
        have R2 := R1.grown q2 (fun e => by injection e with e; omega)
        have Y2 := (Y1.set_ 0 (.string kb)).set_ 1 (.string ks)
        have u0 := R2.cell 0; have u1 := R2.cell 1; have u2 := R2.cell 2
        have v0 := Y2.cell 0; have v1 := Y2.cell 1
        simp only [List.set_cons_zero, List.set_cons_succ, List.getElem?_cons_zero, List.getElem?_cons_succ] at u0 u1 u2 v0 v1
        have hbs := HB.out.size
        have HB1 := Lib.hid (HB.out.grown q1 hbs (fun k e => by injection e with e; omega))
        have HB2 := Lib.hid (HB1.out.grown q2 HB1.out.size (fun k e => by injection e with e; omega))
        have HO2 := Lib.hid ((HO.out.past q1 (by omega)).past q2 (by omega))
        clear R1 R2 Y1 Y2 K J R Q HC q1 q2
        have ne1 : ¬ w.heap.size = w.heap.size + 1 := by omega
        have ne2 : ¬ w.heap.size + 1 = w.heap.size := by omega
        go_upto_region 12 with fail
        go_region
        go_wp2_with fail
        refine bodyPost_ret (v := .tuple #[.agg #[.string nm, .int .i64 (st : Int), .slice A2 m c2], .agg #[.string kb, .string ks], .string ⟨#[112, 49]⟩, .int .i64 (Y : Nat)]) (by simp [results, Tryz.results7, go_sem, u0, u1, u2, v0, v1]) rfl ?_
        exact ⟨nm, st, A2, m, c2, L, kb, ks, ⟨#[112, 49]⟩, Y, rfl, HDR.out, zkb, zks, (by omega), (by omega), (HO2.out.drewN 1).base_le (by omega), (below_drewN HB2.out 1)⟩
    · go_wp2_with fail
      refine (cur_spoilt (t := ⟨#[112, 49]⟩) (B := 550) HS.out HB.out hp0 HC.out (by omega) (by omega) (by decide) (by decide) (by decide)).mono ?_; rintro e w11 ⟨sp, rfl, hsp, hc11, hg11⟩
      have s11 := hg11.size
      replace K := K.grown hg11 (fun e => by injection e with e; omega)
      replace J := J.grown hg11 (fun e => by injection e with e; omega)
      replace R := R.grown hg11 (fun e => by injection e with e; omega)
      replace Q := Q.grown hg11 (fun e => by injection e with e; omega)
      replace HO := Lib.hid (HO.out.past hg11 (by omega))
      replace HB := Lib.hid (grown_below HB.out hp0 hg11)
      replace HC := Lib.hid hc11
      clear hg11 hc11
      go_wp2_with fail
      refine (cur_one HS.out HB.out hp0 HC.out (by omega) (by decide) (by decide)).mono ?_; rintro e w12 ⟨q2, rfl, hc12, hg12⟩
      have s12 := hg12.size
      replace K := K.grown hg12 (fun e => by injection e with e; omega)
      replace J := J.grown hg12 (fun e => by injection e with e; omega)
      replace R := R.grown hg12 (fun e => by injection e with e; omega)
      replace Q := Q.grown hg12 (fun e => by injection e with e; omega)
      replace HO := Lib.hid (HO.out.past hg12 (by omega))
      replace HB := Lib.hid (grown_below HB.out hp0 hg12)
      replace HC := Lib.hid hc12
      clear hg12 hc12
      rcases q2
      · skip
        have kc0 := K.cell 0; have kc1 := K.cell 1; have kc2 := K.cell 2
        simp only [List.getElem?_cons_zero, List.getElem?_cons_succ] at kc0 kc1 kc2
        have jc0 := J.cell 0; have jc1 := J.cell 1
        simp only [List.getElem?_cons_zero, List.getElem?_cons_succ] at jc0 jc1
        have rc0 := R.cell 0; have rc1 := R.cell 1; have rc2 := R.cell 2
        have rf0 := R.frozen 0; have rf1 := R.frozen 1; have rf2 := R.frozen 2
        have yc0 := Q.cell 0; have yc1 := Q.cell 1
        have yf0 := Q.frozen 0; have yf1 := Q.frozen 1
        simp only [List.getElem?_cons_zero, List.getElem?_cons_succ] at rc0 rc1 rc2 yc0 yc1
        have q1 := sets3_grown w12 w.heap.size (.string nm) (.int .i64 (st : Int)) (.slice A2 m c2)
        have R1 := ((R.set_ 0 (.string nm)).set_ 1 (.int .i64 (st : Int))).set_ 2 (.slice A2 m c2)
        have Y1 := Q.grown q1 (fun e => by injection e with e; omega)
        have q2 := sets2_grown (((w12.setCell ⟨w.heap.size, 0, none⟩ (.string nm)).setCell ⟨w.heap.size, 1, none⟩ (.int .i64 (st : Int))).setCell ⟨w.heap.size, 2, none⟩ (.slice A2 m c2)) (w.heap.size + 1) (.string kb) (.string ks)
        have R2 := R1.grown q2 (fun e => by injection e with e; omega)
        have Y2 := (Y1.set_ 0 (.string kb)).set_ 1 (.string ks)
        have u0 := R2.cell 0; have u1 := R2.cell 1; have u2 := R2.cell 2
        have v0 := Y2.cell 0; have v1 := Y2.cell 1
        simp only [List.set_cons_zero, List.set_cons_succ, List.getElem?_cons_zero, List.getElem?_cons_succ] at u0 u1 u2 v0 v1
        have hbs := HB.out.size
        have HB1 := Lib.hid (HB.out.grown q1 hbs (fun k e => by injection e with e; omega))
        have HB2 := Lib.hid (HB1.out.grown q2 HB1.out.size (fun k e => by injection e with e; omega))
        have HO2 := Lib.hid ((HO.out.past q1 (by omega)).past q2 (by omega))
        clear R1 R2 Y1 Y2 K J R Q HC q1 q2
        have ne1 : ¬ w.heap.size = w.heap.size + 1 := by omega
        have ne2 : ¬ w.heap.size + 1 = w.heap.size := by omega
        go_upto_region 12 with fail
        go_region
        go_wp2_with fail
        refine bodyPost_ret (v := .tuple #[.agg #[.string nm, .int .i64 (st : Int), .slice A2 m c2], .agg #[.string kb, .string ks], .string sp, .int .i64 (bl : Nat)]) (by simp [results, Tryz.results7, go_sem, u0, u1, u2, v0, v1]) rfl ?_
        exact ⟨nm, st, A2, m, c2, L, kb, ks, sp, bl, rfl, HDR.out, zkb, zks, (by omega), (by omega), (HO2.out.drewN 1).base_le (by omega), (below_drewN HB2.out 1)⟩
      · go_wp2_with fail
        refine (cur_pick HS.out HB.out hp0 HC.out (by omega) (by decide) (by decide)).mono ?_; rintro e w13 ⟨y, rfl, ⟨y0, y1⟩, hc13, hg13⟩
        have s13 := hg13.size
        obtain ⟨Y, rfl⟩ := Int.eq_ofNat_of_zero_le y0
        have hY : Y ≤ 100 := by omega
        clear y0 y1
        replace K := K.grown hg13 (fun e => by injection e with e; omega)
        replace J := J.grown hg13 (fun e => by injection e with e; omega)
        replace R := R.grown hg13 (fun e => by injection e with e; omega)
        replace Q := Q.grown hg13 (fun e => by injection e with e; omega)
        replace HO := Lib.hid (HO.out.past hg13 (by omega))
        replace HB := Lib.hid (grown_below HB.out hp0 hg13)
        replace HC := Lib.hid hc13
        clear hg13 hc13
        have kc0 := K.cell 0; have kc1 := K.cell 1; have kc2 := K.cell 2
        simp only [List.getElem?_cons_zero, List.getElem?_cons_succ] at kc0 kc1 kc2
        have jc0 := J.cell 0; have jc1 := J.cell 1
        simp only [List.getElem?_cons_zero, List.getElem?_cons_succ] at jc0 jc1
        have rc0 := R.cell 0; have rc1 := R.cell 1; have rc2 := R.cell 2
        have rf0 := R.frozen 0; have rf1 := R.frozen 1; have rf2 := R.frozen 2
        have yc0 := Q.cell 0; have yc1 := Q.cell 1
        have yf0 := Q.frozen 0; have yf1 := Q.frozen 1
        simp only [List.getElem?_cons_zero, List.getElem?_cons_succ] at rc0 rc1 rc2 yc0 yc1
        have q1 := sets3_grown w13 w.heap.size (.string nm) (.int .i64 (st : Int)) (.slice A2 m c2)
        have R1 := ((R.set_ 0 (.string nm)).set_ 1 (.int .i64 (st : Int))).set_ 2 (.slice A2 m c2)
        have Y1 := Q.grown q1 (fun e => by injection e with e; omega)
        have q2 := sets2_grown (((w13.setCell ⟨w.heap.size, 0, none⟩ (.string nm)).setCell ⟨w.heap.size, 1, none⟩ (.int .i64 (st : Int))).setCell ⟨w.heap.size, 2, none⟩ (.slice A2 m c2)) (w.heap.size + 1) (.string kb) (.string ks)
        have R2 := R1.grown q2 (fun e => by injection e with e; omega)
        have Y2 := (Y1.set_ 0 (.string kb)).set_ 1 (.string ks)
        have u0 := R2.cell 0; have u1 := R2.cell 1; have u2 := R2.cell 2
        have v0 := Y2.cell 0; have v1 := Y2.cell 1
        simp only [List.set_cons_zero, List.set_cons_succ, List.getElem?_cons_zero, List.getElem?_cons_succ] at u0 u1 u2 v0 v1
        have hbs := HB.out.size
        have HB1 := Lib.hid (HB.out.grown q1 hbs (fun k e => by injection e with e; omega))
        have HB2 := Lib.hid (HB1.out.grown q2 HB1.out.size (fun k e => by injection e with e; omega))
        have HO2 := Lib.hid ((HO.out.past q1 (by omega)).past q2 (by omega))
        clear R1 R2 Y1 Y2 K J R Q HC q1 q2
        have ne1 : ¬ w.heap.size = w.heap.size + 1 := by omega
        have ne2 : ¬ w.heap.size + 1 = w.heap.size := by omega
        go_upto_region 12 with fail
        go_region
        go_wp2_with fail
        refine bodyPost_ret (v := .tuple #[.agg #[.string nm, .int .i64 (st : Int), .slice A2 m c2], .agg #[.string kb, .string ks], .string sp, .int .i64 (Y : Nat)]) (by simp [results, Tryz.results7, go_sem, u0, u1, u2, v0, v1]) rfl ?_
        exact ⟨nm, st, A2, m, c2, L, kb, ks, sp, Y, rfl, HDR.out, zkb, zks, (by omega), (by omega), (HO2.out.drewN 1).base_le (by omega), (below_drewN HB2.out 1)⟩
  · have HGK := Lib.hid hgk
    have h38 := (goodK_all hgk).1
    clear hgk
    go_upto_region 7 with fail
    have hmc := HO.out.cap
    have s7 := HB.out.size
    have cS : Hid (∀ u : World, Blk u b 25 [.string nm, .int .i64 (st : Int), .slice A2 m c2] → Blk u d 27 [.string kb, .string ks] → u.cell? ⟨b, 0, none⟩ = some (.string nm) ∧ u.cell? ⟨b, 1, none⟩ = some (.int .i64 (st : Int)) ∧ u.cell? ⟨b, 2, none⟩ = some (.slice A2 m c2) ∧ u.cell? ⟨d, 0, none⟩ = some (.string kb) ∧ u.cell? ⟨d, 1, none⟩ = some (.string ks)) := Lib.hid (fun u L0 L1 => ⟨by simpa using L0.cell 0, by simpa using L0.cell 1, by simpa using L0.cell 2, by simpa using L1.cell 0, by simpa using L1.cell 1⟩)
    have C0 : w7.grownBy w7.drew (some (w.heap.size + 2)) := grown_any (Below.refl _ _).drew _
    have KK := K
    have JJ := J
    refine wp_region_held_drew (S := fun u => u.cell? ⟨b, 0, none⟩ = some (.string nm) ∧ u.cell? ⟨b, 1, none⟩ = some (.int .i64 (st : Int)) ∧ u.cell? ⟨b, 2, none⟩ = some (.slice A2 m c2) ∧ u.cell? ⟨d, 0, none⟩ = some (.string kb) ∧ u.cell? ⟨d, 1, none⟩ = some (.string ks)) (by kernel_rfl) (cS.out _ (KK.grown C0 (fun e => by injection e with e; omega)) (JJ.grown C0 (fun e => by injection e with e; omega))) (fun hHeld => ?_)
    refine wpAnyH_take (i := 0) (oi := { dst := some 27, op := _, type := _, pos := _, after := _, guard := _ }) (v := ?_) rfl (by kernel_rfl) (by kernel_rfl) (by kernel_rfl) (fun _ _ _ h => h) (Or.inl ⟨by rfl, ?_⟩) (by assumption) ?_
    rotate_left
    · (intro w hSw; (try dsimp only at hSw); go_simp) <;> with_reducible rfl
    (try simp only [Act.put, List.setIfInBounds_toArray, List.set_cons_zero, List.set_cons_succ])
    refine wpAnyH_take (i := 1) (oi := { dst := some 28, op := _, type := _, pos := _, after := _, guard := _ }) (v := ?_) rfl (by kernel_rfl) (by kernel_rfl) (by kernel_rfl) (fun _ _ _ h => h) (Or.inl ⟨by rfl, ?_⟩) (by assumption) ?_
    rotate_left
    · (intro w hSw; (try dsimp only at hSw); go_simp) <;> with_reducible rfl
    (try simp only [Act.put, List.setIfInBounds_toArray, List.set_cons_zero, List.set_cons_succ])
    refine wpAnyH_take (i := 2) (oi := { dst := some 29, op := _, type := _, pos := _, after := _, guard := _ }) (v := ?_) rfl (by kernel_rfl) (by kernel_rfl) (by kernel_rfl) (fun _ _ _ h => h) (Or.inl ⟨by rfl, ?_⟩) (by assumption) ?_
    rotate_left
    · (intro w hSw; (try dsimp only at hSw); go_simp) <;> with_reducible rfl
    (try simp only [Act.put, List.setIfInBounds_toArray, List.set_cons_zero, List.set_cons_succ])
    refine wpAnyH_take (i := 4) (oi := { dst := some 31, op := _, type := _, pos := _, after := _, guard := _ }) (v := ?_) rfl (by kernel_rfl) (by kernel_rfl) (by kernel_rfl) (fun _ _ _ h => h) (Or.inl ⟨by rfl, ?_⟩) (by assumption) ?_
    rotate_left
    · (intro w hSw; (try dsimp only at hSw); go_simp) <;> with_reducible rfl
    (try simp only [Act.put, List.setIfInBounds_toArray, List.set_cons_zero, List.set_cons_succ])
    refine wpAnyH_ready (rs := [3]) (by kernel_rfl) (by simp) ?_
    refine AllReadyH.cons (o := _) rfl (fun K hK => ?_) AllReadyH.nil
    go_simp
    refine (cur_touch (M := 9) HS.out (grown_below HB.out hp0 C0) hp0 (HC.out.up (Below.refl _ _).drew) (by omega) (by decide) (by decide)).mono ?_; rintro e w8 ⟨t, rfl, ht1, ht2, ht3, hc8, hg8⟩
    have hg8 := grownBy_trans C0 hg8
    have hgt := goodT_of ht1 ht2 (by omega)
    try go_wp2_with fail
    refine hK.out _ _ (cS.out _ (KK.grown hg8 (fun e => by injection e with e; omega)) (JJ.grown hg8 (fun e => by injection e with e; omega))) (fun hHeld => ?_)
    clear hK K
    (try simp only [Act.put, List.setIfInBounds_toArray, List.set_cons_zero, List.set_cons_succ])
    refine wpAnyH_ready (rs := [5]) (by kernel_rfl) (by simp) ?_
    refine AllReadyH.cons (o := _) rfl (fun K hK => ?_) AllReadyH.nil
    go_simp
    refine (spec_l10Calling (nm := nm) (st := st) (t := t) (bl := bl) HLl.out (HO.out.past hg8 (by omega)).recs HGK.out hgt hmc.1 hbl8).mono ?_; rintro e w9 ⟨rfl, hb9⟩
    have hg9 := grownBy_trans hg8 (grown_any hb9 (some (w.heap.size + 2)))
    try go_wp2_with fail
    refine hK.out _ _ (cS.out _ (KK.grown hg9 (fun e => by injection e with e; omega)) (JJ.grown hg9 (fun e => by injection e with e; omega))) (fun hHeld => ?_)
    clear hK K
    (try simp only [Act.put, List.setIfInBounds_toArray, List.set_cons_zero, List.set_cons_succ])
    refine wpAnyH_take (i := 6) (oi := { dst := some 10, op := _, type := _, pos := _, after := _, guard := _ }) (v := ?_) rfl (by kernel_rfl) (by kernel_rfl) (by kernel_rfl) (fun _ _ _ h => h) (Or.inl ⟨by rfl, ?_⟩) (by assumption) ?_
    rotate_left
    · (intro w hSw; (try dsimp only at hSw); go_simp) <;> with_reducible rfl
    (try simp only [Act.put, List.setIfInBounds_toArray, List.set_cons_zero, List.set_cons_succ])
    refine wpAnyH_done (by kernel_rfl) ?_ _
    (try simp only [Act.put, List.setIfInBounds_toArray, List.set_cons_zero, List.set_cons_succ])
    have T1 := calS_size (l := L) (kb := kb) (ks := ks) (bl := bl) h38.1 h38.2 hgt
    obtain ⟨V, hV⟩ : ∃ u, u = calS st L kb ks bl t := ⟨_, rfl⟩
    rw [← hV] at T1 ⊢
    have hc9 := hc8.up hb9
    clear C0 cS KK JJ hg8 hc8 hb9 hV hgt ht1 hHeld
    replace K := K.grown hg9 (fun e => by injection e with e; omega)
    replace J := J.grown hg9 (fun e => by injection e with e; omega)
    replace R := R.grown hg9 (fun e => by injection e with e; omega)
    replace Q := Q.grown hg9 (fun e => by injection e with e; omega)
    replace HO := Lib.hid (HO.out.past hg9 (by omega))
    replace HB := Lib.hid (grown_below HB.out hp0 hg9)
    replace HC := Lib.hid hc9
    clear hg9 hc9
    go_wp2_with fail
    refine (cur_one HS.out HB.out hp0 HC.out (by omega) (by decide) (by decide)).mono ?_; rintro e w10 ⟨q1, rfl, hc10, hg10⟩
    have s10 := hg10.size
    replace K := K.grown hg10 (fun e => by injection e with e; omega)
    replace J := J.grown hg10 (fun e => by injection e with e; omega)
    replace R := R.grown hg10 (fun e => by injection e with e; omega)
    replace Q := Q.grown hg10 (fun e => by injection e with e; omega)
    replace HO := Lib.hid (HO.out.past hg10 (by omega))
    replace HB := Lib.hid (grown_below HB.out hp0 hg10)
    replace HC := Lib.hid hc10
    clear hg10 hc10
    rcases q1
    · skip
      go_wp2_with fail
      refine (cur_one HS.out HB.out hp0 HC.out (by omega) (by decide) (by decide)).mono ?_; rintro e w12 ⟨q2, rfl, hc12, hg12⟩
      have s12 := hg12.size
      replace K := K.grown hg12 (fun e => by injection e with e; omega)
      replace J := J.grown hg12 (fun e => by injection e with e; omega)
      replace R := R.grown hg12 (fun e => by injection e with e; omega)
      replace Q := Q.grown hg12 (fun e => by injection e with e; omega)
      replace HO := Lib.hid (HO.out.past hg12 (by omega))
      replace HB := Lib.hid (grown_below HB.out hp0 hg12)
      replace HC := Lib.hid hc12
      clear hg12 hc12
      rcases q2
      · skip
        have kc0 := K.cell 0; have kc1 := K.cell 1; have kc2 := K.cell 2
        simp only [List.getElem?_cons_zero, List.getElem?_cons_succ] at kc0 kc1 kc2
        have jc0 := J.cell 0; have jc1 := J.cell 1
        simp only [List.getElem?_cons_zero, List.getElem?_cons_succ] at jc0 jc1
        have rc0 := R.cell 0; have rc1 := R.cell 1; have rc2 := R.cell 2
        have rf0 := R.frozen 0; have rf1 := R.frozen 1; have rf2 := R.frozen 2
        have yc0 := Q.cell 0; have yc1 := Q.cell 1
        have yf0 := Q.frozen 0; have yf1 := Q.frozen 1
        simp only [List.getElem?_cons_zero, List.getElem?_cons_succ] at rc0 rc1 rc2 yc0 yc1
        have q1 := sets3_grown w12 w.heap.size (.string nm) (.int .i64 (st : Int)) (.slice A2 m c2)
        have R1 := ((R.set_ 0 (.string nm)).set_ 1 (.int .i64 (st : Int))).set_ 2 (.slice A2 m c2)
        have Y1 := Q.grown q1 (fun e => by injection e with e; omega)
        have q2 := sets2_grown (((w12.setCell ⟨w.heap.size, 0, none⟩ (.string nm)).setCell ⟨w.heap.size, 1, none⟩ (.int .i64 (st : Int))).setCell ⟨w.heap.size, 2, none⟩ (.slice A2 m c2)) (w.heap.size + 1) (.string kb) (.string ks)
        have R2 := R1.grown q2 (fun e => by injection e with e; omega)
        have Y2 := (Y1.set_ 0 (.string kb)).set_ 1 (.string ks)
        have u0 := R2.cell 0; have u1 := R2.cell 1; have u2 := R2.cell 2
        have v0 := Y2.cell 0; have v1 := Y2.cell 1
        simp only [List.set_cons_zero, List.set_cons_succ, List.getElem?_cons_zero, List.getElem?_cons_succ] at u0 u1 u2 v0 v1
        have hbs := HB.out.size
        have HB1 := Lib.hid (HB.out.grown q1 hbs (fun k e => by injection e with e; omega))
        have HB2 := Lib.hid (HB1.out.grown q2 HB1.out.size (fun k e => by injection e with e; omega))
        have HO2 := Lib.hid ((HO.out.past q1 (by omega)).past q2 (by omega))
        clear R1 R2 Y1 Y2 K J R Q HC q1 q2
        have ne1 : ¬ w.heap.size = w.heap.size + 1 := by omega
        have ne2 : ¬ w.heap.size + 1 = w.heap.size := by omega
        go_upto_region 12 with fail
        go_region
        go_wp2_with fail
        refine bodyPost_ret (v := .tuple #[.agg #[.string nm, .int .i64 (st : Int), .slice A2 m c2], .agg #[.string kb, .string ks], .string V, .int .i64 (bl : Nat)]) (by simp [results, Tryz.results7, go_sem, u0, u1, u2, v0, v1]) rfl ?_
        exact ⟨nm, st, A2, m, c2, L, kb, ks, V, bl, rfl, HDR.out, zkb, zks, (by omega), (by omega), (HO2.out.drewN 1).base_le (by omega), (below_drewN HB2.out 1)⟩
      · go_wp2_with fail
        refine (cur_pick HS.out HB.out hp0 HC.out (by omega) (by decide) (by decide)).mono ?_; rintro e w13 ⟨y, rfl, ⟨y0, y1⟩, hc13, hg13⟩
        have s13 := hg13.size
        obtain ⟨Y, rfl⟩ := Int.eq_ofNat_of_zero_le y0
        have hY : Y ≤ 100 := by omega
        clear y0 y1
        replace K := K.grown hg13 (fun e => by injection e with e; omega)
        replace J := J.grown hg13 (fun e => by injection e with e; omega)
        replace R := R.grown hg13 (fun e => by injection e with e; omega)
        replace Q := Q.grown hg13 (fun e => by injection e with e; omega)
        replace HO := Lib.hid (HO.out.past hg13 (by omega))
        replace HB := Lib.hid (grown_below HB.out hp0 hg13)
        replace HC := Lib.hid hc13
        clear hg13 hc13
        have kc0 := K.cell 0; have kc1 := K.cell 1; have kc2 := K.cell 2
        simp only [List.getElem?_cons_zero, List.getElem?_cons_succ] at kc0 kc1 kc2
        have jc0 := J.cell 0; have jc1 := J.cell 1
        simp only [List.getElem?_cons_zero, List.getElem?_cons_succ] at jc0 jc1
        have rc0 := R.cell 0; have rc1 := R.cell 1; have rc2 := R.cell 2
        have rf0 := R.frozen 0; have rf1 := R.frozen 1; have rf2 := R.frozen 2
        have yc0 := Q.cell 0; have yc1 := Q.cell 1
        have yf0 := Q.frozen 0; have yf1 := Q.frozen 1
        simp only [List.getElem?_cons_zero, List.getElem?_cons_succ] at rc0 rc1 rc2 yc0 yc1
        have q1 := sets3_grown w13 w.heap.size (.string nm) (.int .i64 (st : Int)) (.slice A2 m c2)
        have R1 := ((R.set_ 0 (.string nm)).set_ 1 (.int .i64 (st : Int))).set_ 2 (.slice A2 m c2)
        have Y1 := Q.grown q1 (fun e => by injection e with e; omega)
        have q2 := sets2_grown (((w13.setCell ⟨w.heap.size, 0, none⟩ (.string nm)).setCell ⟨w.heap.size, 1, none⟩ (.int .i64 (st : Int))).setCell ⟨w.heap.size, 2, none⟩ (.slice A2 m c2)) (w.heap.size + 1) (.string kb) (.string ks)
        have R2 := R1.grown q2 (fun e => by injection e with e; omega)
        have Y2 := (Y1.set_ 0 (.string kb)).set_ 1 (.string ks)
        have u0 := R2.cell 0; have u1 := R2.cell 1; have u2 := R2.cell 2
        have v0 := Y2.cell 0; have v1 := Y2.cell 1
        simp only [List.set_cons_zero, List.set_cons_succ, List.getElem?_cons_zero, List.getElem?_cons_succ] at u0 u1 u2 v0 v1
        have hbs := HB.out.size
        have HB1 := Lib.hid (HB.out.grown q1 hbs (fun k e => by injection e with e; omega))
        have HB2 := Lib.hid (HB1.out.grown q2 HB1.out.size (fun k e => by injection e with e; omega))
        have HO2 := Lib.hid ((HO.out.past q1 (by omega)).past q2 (by omega))
        clear R1 R2 Y1 Y2 K J R Q HC q1 q2
        have ne1 : ¬ w.heap.size = w.heap.size + 1 := by omega
        have ne2 : ¬ w.heap.size + 1 = w.heap.size := by omega
        go_upto_region 12 with fail
        go_region
        go_wp2_with fail
        refine bodyPost_ret (v := .tuple #[.agg #[.string nm, .int .i64 (st : Int), .slice A2 m c2], .agg #[.string kb, .string ks], .string V, .int .i64 (Y : Nat)]) (by simp [results, Tryz.results7, go_sem, u0, u1, u2, v0, v1]) rfl ?_
        exact ⟨nm, st, A2, m, c2, L, kb, ks, V, Y, rfl, HDR.out, zkb, zks, (by omega), (by omega), (HO2.out.drewN 1).base_le (by omega), (below_drewN HB2.out 1)⟩
    · go_wp2_with fail
      refine (cur_spoilt (t := V) (B := 550) HS.out HB.out hp0 HC.out (by omega) (by omega) (by decide) (by decide) (by decide)).mono ?_; rintro e w11 ⟨sp, rfl, hsp, hc11, hg11⟩
      have s11 := hg11.size
      replace K := K.grown hg11 (fun e => by injection e with e; omega)
      replace J := J.grown hg11 (fun e => by injection e with e; omega)
      replace R := R.grown hg11 (fun e => by injection e with e; omega)
      replace Q := Q.grown hg11 (fun e => by injection e with e; omega)
      replace HO := Lib.hid (HO.out.past hg11 (by omega))
      replace HB := Lib.hid (grown_below HB.out hp0 hg11)
      replace HC := Lib.hid hc11
      clear hg11 hc11
      go_wp2_with fail
      refine (cur_one HS.out HB.out hp0 HC.out (by omega) (by decide) (by decide)).mono ?_; rintro e w12 ⟨q2, rfl, hc12, hg12⟩
      have s12 := hg12.size
      replace K := K.grown hg12 (fun e => by injection e with e; omega)
      replace J := J.grown hg12 (fun e => by injection e with e; omega)
      replace R := R.grown hg12 (fun e => by injection e with e; omega)
      replace Q := Q.grown hg12 (fun e => by injection e with e; omega)
      replace HO := Lib.hid (HO.out.past hg12 (by omega))
      replace HB := Lib.hid (grown_below HB.out hp0 hg12)
      replace HC := Lib.hid hc12
      clear hg12 hc12
      rcases q2
      · skip
        have kc0 := K.cell 0; have kc1 := K.cell 1; have kc2 := K.cell 2
        simp only [List.getElem?_cons_zero, List.getElem?_cons_succ] at kc0 kc1 kc2
        have jc0 := J.cell 0; have jc1 := J.cell 1
        simp only [List.getElem?_cons_zero, List.getElem?_cons_succ] at jc0 jc1
        have rc0 := R.cell 0; have rc1 := R.cell 1; have rc2 := R.cell 2
        have rf0 := R.frozen 0; have rf1 := R.frozen 1; have rf2 := R.frozen 2
        have yc0 := Q.cell 0; have yc1 := Q.cell 1
        have yf0 := Q.frozen 0; have yf1 := Q.frozen 1
        simp only [List.getElem?_cons_zero, List.getElem?_cons_succ] at rc0 rc1 rc2 yc0 yc1
        have q1 := sets3_grown w12 w.heap.size (.string nm) (.int .i64 (st : Int)) (.slice A2 m c2)
        have R1 := ((R.set_ 0 (.string nm)).set_ 1 (.int .i64 (st : Int))).set_ 2 (.slice A2 m c2)
        have Y1 := Q.grown q1 (fun e => by injection e with e; omega)
        have q2 := sets2_grown (((w12.setCell ⟨w.heap.size, 0, none⟩ (.string nm)).setCell ⟨w.heap.size, 1, none⟩ (.int .i64 (st : Int))).setCell ⟨w.heap.size, 2, none⟩ (.slice A2 m c2)) (w.heap.size + 1) (.string kb) (.string ks)
        have R2 := R1.grown q2 (fun e => by injection e with e; omega)
        have Y2 := (Y1.set_ 0 (.string kb)).set_ 1 (.string ks)
        have u0 := R2.cell 0; have u1 := R2.cell 1; have u2 := R2.cell 2
        have v0 := Y2.cell 0; have v1 := Y2.cell 1
        simp only [List.set_cons_zero, List.set_cons_succ, List.getElem?_cons_zero, List.getElem?_cons_succ] at u0 u1 u2 v0 v1
        have hbs := HB.out.size
        have HB1 := Lib.hid (HB.out.grown q1 hbs (fun k e => by injection e with e; omega))
        have HB2 := Lib.hid (HB1.out.grown q2 HB1.out.size (fun k e => by injection e with e; omega))
        have HO2 := Lib.hid ((HO.out.past q1 (by omega)).past q2 (by omega))
        clear R1 R2 Y1 Y2 K J R Q HC q1 q2
        have ne1 : ¬ w.heap.size = w.heap.size + 1 := by omega
        have ne2 : ¬ w.heap.size + 1 = w.heap.size := by omega
        go_upto_region 12 with fail
        go_region
        go_wp2_with fail
        refine bodyPost_ret (v := .tuple #[.agg #[.string nm, .int .i64 (st : Int), .slice A2 m c2], .agg #[.string kb, .string ks], .string sp, .int .i64 (bl : Nat)]) (by simp [results, Tryz.results7, go_sem, u0, u1, u2, v0, v1]) rfl ?_
        exact ⟨nm, st, A2, m, c2, L, kb, ks, sp, bl, rfl, HDR.out, zkb, zks, (by omega), (by omega), (HO2.out.drewN 1).base_le (by omega), (below_drewN HB2.out 1)⟩
      · go_wp2_with fail
        refine (cur_pick HS.out HB.out hp0 HC.out (by omega) (by decide) (by decide)).mono ?_; rintro e w13 ⟨y, rfl, ⟨y0, y1⟩, hc13, hg13⟩
        have s13 := hg13.size
        obtain ⟨Y, rfl⟩ := Int.eq_ofNat_of_zero_le y0
        have hY : Y ≤ 100 := by omega
        clear y0 y1
        replace K := K.grown hg13 (fun e => by injection e with e; omega)
        replace J := J.grown hg13 (fun e => by injection e with e; omega)
        replace R := R.grown hg13 (fun e => by injection e with e; omega)
        replace Q := Q.grown hg13 (fun e => by injection e with e; omega)
        replace HO := Lib.hid (HO.out.past hg13 (by omega))
        replace HB := Lib.hid (grown_below HB.out hp0 hg13)
        replace HC := Lib.hid hc13
        clear hg13 hc13
        have kc0 := K.cell 0; have kc1 := K.cell 1; have kc2 := K.cell 2
        simp only [List.getElem?_cons_zero, List.getElem?_cons_succ] at kc0 kc1 kc2
        have jc0 := J.cell 0; have jc1 := J.cell 1
        simp only [List.getElem?_cons_zero, List.getElem?_cons_succ] at jc0 jc1
        have rc0 := R.cell 0; have rc1 := R.cell 1; have rc2 := R.cell 2
        have rf0 := R.frozen 0; have rf1 := R.frozen 1; have rf2 := R.frozen 2
        have yc0 := Q.cell 0; have yc1 := Q.cell 1
        have yf0 := Q.frozen 0; have yf1 := Q.frozen 1
        simp only [List.getElem?_cons_zero, List.getElem?_cons_succ] at rc0 rc1 rc2 yc0 yc1
        have q1 := sets3_grown w13 w.heap.size (.string nm) (.int .i64 (st : Int)) (.slice A2 m c2)
        have R1 := ((R.set_ 0 (.string nm)).set_ 1 (.int .i64 (st : Int))).set_ 2 (.slice A2 m c2)
        have Y1 := Q.grown q1 (fun e => by injection e with e; omega)
        have q2 := sets2_grown (((w13.setCell ⟨w.heap.size, 0, none⟩ (.string nm)).setCell ⟨w.heap.size, 1, none⟩ (.int .i64 (st : Int))).setCell ⟨w.heap.size, 2, none⟩ (.slice A2 m c2)) (w.heap.size + 1) (.string kb) (.string ks)
        have R2 := R1.grown q2 (fun e => by injection e with e; omega)
        have Y2 := (Y1.set_ 0 (.string kb)).set_ 1 (.string ks)
        have u0 := R2.cell 0; have u1 := R2.cell 1; have u2 := R2.cell 2
        have v0 := Y2.cell 0; have v1 := Y2.cell 1
        simp only [List.set_cons_zero, List.set_cons_succ, List.getElem?_cons_zero, List.getElem?_cons_succ] at u0 u1 u2 v0 v1
        have hbs := HB.out.size
        have HB1 := Lib.hid (HB.out.grown q1 hbs (fun k e => by injection e with e; omega))
        have HB2 := Lib.hid (HB1.out.grown q2 HB1.out.size (fun k e => by injection e with e; omega))
        have HO2 := Lib.hid ((HO.out.past q1 (by omega)).past q2 (by omega))
        clear R1 R2 Y1 Y2 K J R Q HC q1 q2
        have ne1 : ¬ w.heap.size = w.heap.size + 1 := by omega
        have ne2 : ¬ w.heap.size + 1 = w.heap.size := by omega
        go_upto_region 12 with fail
        go_region
        go_wp2_with fail
        refine bodyPost_ret (v := .tuple #[.agg #[.string nm, .int .i64 (st : Int), .slice A2 m c2], .agg #[.string kb, .string ks], .string sp, .int .i64 (Y : Nat)]) (by simp [results, Tryz.results7, go_sem, u0, u1, u2, v0, v1]) rfl ?_
        exact ⟨nm, st, A2, m, c2, L, kb, ks, sp, Y, rfl, HDR.out, zkb, zks, (by omega), (by omega), (HO2.out.drewN 1).base_le (by omega), (below_drewN HB2.out 1)⟩
end Go.Proofs.YtidolgonmimicaaGreatDoor
/- The walk through FnCalling: for all bytes the law answers true. -/
namespace Go.Proofs.YtidolgonmimicaaGreatDoor
set_option linter.unusedVariables false
set_option linter.unusedSimpArgs false
open Go.ChangeShapes Go.WideShapes Go.ChangeAt Go.RowKit Go.Deep
set_option maxHeartbeats 4000000 in
set_option maxRecDepth 100000 in
theorem law_Calling (A0 : Option Addr) (c0 : Nat) (l0 : List Int) (A1 : Option Addr) (c1 : Nat) (l1 : List Int) (w : World) (h0 : Recs byteE 1 w A0 l0) (hm0 : l0.length ≤ 9223372036854775807) (hb0 : ∀ x ∈ l0, 0 ≤ x ∧ x ≤ 255)
    (h1 : Recs byteE 1 w A1 l1) (hm1 : l1.length ≤ 9223372036854775807) (hb1 : ∀ x ∈ l1, 0 ≤ x ∧ x ≤ 255) (mx : Int) (hm : w.cell? ⟨0, 0, none⟩ = some (.int .i64 mx)) (hmw : 0 < w.heap.size) :
    Calls Tryz.prog 3 #[.slice A0 l0.length c0, .slice A1 l1.length c1] w fun e w' => e = .returned (.bool true) ∧ Below w.heap.size w w' := by
  have S0 := Lib.hid (show Src w A0 l0.length from ⟨l0, rfl, hm0, hb0, h0⟩)
  have S1 := Lib.hid (show Src w A1 l1.length from ⟨l1, rfl, hm1, hb1, h1⟩)
  have HM := Lib.hid (fun (u : World) (hu : Below w.heap.size w u) => And.intro ((hu.cell (p := ⟨0, 0, none⟩) hmw).trans hm) (Nat.lt_of_lt_of_le hmw hu.size))
  clear h0 h1 hb0 hb1 hm
  by_cases hz : wrap64 ((l0.length : Int) + (l1.length : Int)) ≤ 1048576
  · have hI : ¬ 1048576 < wrap64 ((l0.length : Int) + (l1.length : Int)) := by omega
    clear hz
    go_in
    go_wp2_with fail
    clear hI
    refine (draw_CallingText S0.out).mono ?_; rintro e v1 ⟨nm1, st1, B1, m1, d1, L1, kb1, ks1, t1, bl1, rfl, hdr1, zk1, zs1, ht1, hb1, ho1, hv1⟩
    have hdf1 := drM_f10 hdr1
    have HL1 := Lib.hid ho1.len
    have hcap1 := ho1.cap.1
    have z1 : m1 ≤ 1048576 := by have := HL1.out; omega
    have a1 : Below v1.heap.size v1 ((v1.alloc (.cells #[.string nm1, .int .i64 (st1 : Int), .slice B1 m1 d1] 25)).alloc (.cells #[.string kb1, .string ks1] 27)) := by (repeat' (first | (with_reducible exact Below.refl _ _) | (with_reducible assumption) | (with_reducible refine below_drewN ?_ _) | (with_reducible refine Below.drew ?_) | (with_reducible refine below_alloc ?_ _) | (with_reducible refine Below.alloc ?_ ?_ _) | (with_reducible refine Below.setCell ?_ ?_ _) | (with_reducible refine below_go ?_ (by with_reducible assumption)) | (with_reducible refine below_then (by with_reducible assumption) ?_ ?_) | go_size))
    have K1 := (Blk.at_ v1 25 [.string nm1, .int .i64 (st1 : Int), .slice B1 m1 d1] (b := v1.heap.size) rfl).alloc (.cells #[.string kb1, .string ks1] 27)
    have J1 := Blk.at_ (v1.alloc (.cells #[.string nm1, .int .i64 (st1 : Int), .slice B1 m1 d1] 25)) 27 [.string kb1, .string ks1] (b := v1.heap.size + 1) (by simp)
    have R1 := Lib.hid (ho1.recs.up a1)
    have HW := Lib.hid hv1
    clear hv1
    replace HW := Lib.hid (below_go HW.out a1)
    clear a1
    clear hdr1 ho1
    go_upto_region 4 with fail
    obtain ⟨u1, hu1⟩ : ∃ u, u = (v1.alloc (.cells #[.string nm1, .int .i64 (st1 : Int), .slice B1 m1 d1] 25)).alloc (.cells #[.string kb1, .string ks1] 27) := ⟨_, rfl⟩
    rw [← hu1] at K1 J1 R1 HW  ⊢
    obtain ⟨p1, hp1⟩ : ∃ u, u = v1.heap.size := ⟨_, rfl⟩
    rw [← hp1] at K1 J1 ⊢
    clear hu1 hp1
    obtain ⟨p, hp⟩ : ∃ u, u = clOk nm1 st1 L1 kb1 ks1 bl1 t1 := ⟨_, rfl⟩
    obtain ⟨V, hV⟩ : ∃ u, u = clV nm1 st1 L1 kb1 ks1 bl1 t1 := ⟨_, rfl⟩
    have GP := Lib.hid hp; have GV := Lib.hid hV
    have hVz : V.size ≤ 16777216 := by
      rw [hV]
      rcases hq : clOk nm1 st1 L1 kb1 ks1 bl1 t1
      · rw [clV_f hq]; decide
      · rw [clV_t hq]
        rw [clOk, askB, Bool.and_eq_true, Bool.and_eq_true] at hq
        have h38 := (goodK_all hq.1.1).1
        have := calS_size (l := L1) (kb := kb1) (ks := ks1) (bl := bl1) h38.1 h38.2 hq.2
        omega
    clear hp hV
    have kc0 := K1.cell 0; have kc1 := K1.cell 1; have kc2 := K1.cell 2; have jc0 := J1.cell 0; have jc1 := J1.cell 1
    simp only [List.getElem?_cons_zero, List.getElem?_cons_succ] at kc0 kc1 kc2 jc0 jc1
    go_wp2_with fail
    refine (impl_CallingText (t := t1) (bl := bl1) HL1.out R1.out z1 hdf1.2.2.2.1 hdf1.1 hdf1.2.1 (by omega) (by omega) (by omega) hb1).mono ?_; rw [← GP.out, ← GV.out]; rintro e y1 ⟨rfl, hy1⟩
    clear kc0 kc1 kc2 jc0 jc1
    replace K1 := K1.up hy1
    replace J1 := J1.up hy1
    replace R1 := Lib.hid (R1.out.up hy1)
    replace HW := Lib.hid (below_go HW.out hy1)
    clear hy1
    have kc0 := K1.cell 0; have kc1 := K1.cell 1; have kc2 := K1.cell 2; have jc0 := J1.cell 0; have jc1 := J1.cell 1
    simp only [List.getElem?_cons_zero, List.getElem?_cons_succ] at kc0 kc1 kc2 jc0 jc1
    go_wp2_with fail
    refine (spec_CallingText (t := t1) (bl := bl1) HL1.out R1.out z1 hdf1.2.2.2.1 hdf1.1 hdf1.2.1 hcap1 (by omega) (by omega) (by omega) hb1).mono ?_; rw [← GP.out, ← GV.out]; rintro e y2 ⟨rfl, hy2⟩
    clear kc0 kc1 kc2 jc0 jc1
    replace K1 := K1.up hy2
    replace J1 := J1.up hy2
    replace R1 := Lib.hid (R1.out.up hy2)
    replace HW := Lib.hid (below_go HW.out hy2)
    clear hy2
    go_wp2_with fail
    refine (draw_ReadCalling (S1.out.over HW.out)).mono ?_; rintro e v2 ⟨nm2, st2, B2, m2, d2, L2, kb2, ks2, t2, bl2, rfl, hdr2, zk2, zs2, ht2, hb2, ho2, hv2⟩
    have hdf2 := drM_f10 hdr2
    have HL2 := Lib.hid ho2.len
    have hcap2 := ho2.cap.1
    have z2 : m2 ≤ 1048576 := by have := HL2.out; omega
    have a2 : Below v2.heap.size v2 ((v2.alloc (.cells #[.string nm2, .int .i64 (st2 : Int), .slice B2 m2 d2] 25)).alloc (.cells #[.string kb2, .string ks2] 27)) := by (repeat' (first | (with_reducible exact Below.refl _ _) | (with_reducible assumption) | (with_reducible refine below_drewN ?_ _) | (with_reducible refine Below.drew ?_) | (with_reducible refine below_alloc ?_ _) | (with_reducible refine Below.alloc ?_ ?_ _) | (with_reducible refine Below.setCell ?_ ?_ _) | (with_reducible refine below_go ?_ (by with_reducible assumption)) | (with_reducible refine below_then (by with_reducible assumption) ?_ ?_) | go_size))
    have K2 := (Blk.at_ v2 25 [.string nm2, .int .i64 (st2 : Int), .slice B2 m2 d2] (b := v2.heap.size) rfl).alloc (.cells #[.string kb2, .string ks2] 27)
    have J2 := Blk.at_ (v2.alloc (.cells #[.string nm2, .int .i64 (st2 : Int), .slice B2 m2 d2] 25)) 27 [.string kb2, .string ks2] (b := v2.heap.size + 1) (by simp)
    have R2 := Lib.hid (ho2.recs.up a2)
    replace K1 := K1.up hv2
    replace J1 := J1.up hv2
    replace R1 := Lib.hid (R1.out.up hv2)
    replace HW := Lib.hid (below_go HW.out hv2)
    clear hv2
    replace K1 := K1.up a2
    replace J1 := J1.up a2
    replace R1 := Lib.hid (R1.out.up a2)
    replace HW := Lib.hid (below_go HW.out a2)
    clear a2
    clear hdr2 ho2
    go_upto_region 7 with fail
    obtain ⟨u2, hu2⟩ : ∃ u, u = (v2.alloc (.cells #[.string nm2, .int .i64 (st2 : Int), .slice B2 m2 d2] 25)).alloc (.cells #[.string kb2, .string ks2] 27) := ⟨_, rfl⟩
    rw [← hu2] at K2 J2 R2 HW K1 J1 R1 ⊢
    obtain ⟨p2, hp2⟩ : ∃ u, u = v2.heap.size := ⟨_, rfl⟩
    rw [← hp2] at K2 J2 ⊢
    clear hu2 hp2
    have hcell3 := HM.out _ HW.out
    have kc0 := K2.cell 0; have kc1 := K2.cell 1; have kc2 := K2.cell 2; have jc0 := J2.cell 0; have jc1 := J2.cell 1
    simp only [List.getElem?_cons_zero, List.getElem?_cons_succ] at kc0 kc1 kc2 jc0 jc1
    go_wp2_with fail
    refine (impl_ReadCalling (s := t2) (bl := bl2) (m := mx) HL2.out R2.out z2 hdf2.2.2.2.1 hdf2.1 hdf2.2.1 (by omega) (by omega) (by omega) hb2 hcell3.1 hcell3.2).mono ?_; intro e y3 hx3
    obtain ⟨x, ok, rfl, hr3, hy3⟩ := hx3
    have HR3 := Lib.hid hr3
    clear hr3 hcell3
    clear kc0 kc1 kc2 jc0 jc1
    replace K1 := K1.up hy3
    replace J1 := J1.up hy3
    replace K2 := K2.up hy3
    replace J2 := J2.up hy3
    replace R1 := Lib.hid (R1.out.up hy3)
    replace R2 := Lib.hid (R2.out.up hy3)
    replace HW := Lib.hid (below_go HW.out hy3)
    clear hy3
    have hcell4 := HM.out _ HW.out
    have kc0 := K2.cell 0; have kc1 := K2.cell 1; have kc2 := K2.cell 2; have jc0 := J2.cell 0; have jc1 := J2.cell 1
    simp only [List.getElem?_cons_zero, List.getElem?_cons_succ] at kc0 kc1 kc2 jc0 jc1
    go_wp2_with fail
    refine (spec_ReadCalling (s := t2) (bl := bl2) HL2.out R2.out z2 hdf2.2.2.2.1 hdf2.1 hdf2.2.1 hcap2 (by omega) (by omega) (by omega) hb2).mono ?_; intro e y4 hx4
    obtain ⟨x2, ok2, rfl, hr4, hy4⟩ := hx4
    have HR4 := Lib.hid hr4
    clear hr4 hcell4
    clear kc0 kc1 kc2 jc0 jc1
    replace K1 := K1.up hy4
    replace J1 := J1.up hy4
    replace K2 := K2.up hy4
    replace J2 := J2.up hy4
    replace R1 := Lib.hid (R1.out.up hy4)
    replace R2 := Lib.hid (R2.out.up hy4)
    replace HW := Lib.hid (below_go HW.out hy4)
    clear hy4
    obtain ⟨rfl, rfl⟩ := RdP.uniq HR3.out HR4.out
    clear HR4
    have HFIN := Lib.hid (show p = true → V.size ≤ 200 → ∀ x ok, RdP (askB nm1 st1 L1 kb1 ks1 bl1) st1 L1 kb1 ks1 bl1 V x ok → ok = true ∧ x = t1 from fun hp hs x ok hr => by
      have h1 := GP.out.symm.trans hp
      have h2 := GV.out
      rw [clV_t h1] at h2
      rw [clOk, Bool.and_eq_true] at h1
      rcases ok
      · exact absurd ⟨h1.1, hs, t1, h1.2, h2.symm⟩ (hr.2 rfl).2
      · exact ⟨rfl, ((hr.1 rfl).2.2.2.2 t1 h1.2 h2.symm).symm⟩)
    rcases ok
    · skip
      rcases p
      · go_wp2
        go_ret
        exact ⟨rfl, HW.out⟩
      · by_cases hs : V.size ≤ 200
        · have hI2 : ¬ (200 : Int) < (V.size : Int) := by omega
          have hcell6 := HM.out _ HW.out
          have kc0 := K1.cell 0; have kc1 := K1.cell 1; have kc2 := K1.cell 2; have jc0 := J1.cell 0; have jc1 := J1.cell 1
          simp only [List.getElem?_cons_zero, List.getElem?_cons_succ] at kc0 kc1 kc2 jc0 jc1
          go_wp2_with fail
          refine (impl_ReadCalling (s := V) (bl := bl1) (m := mx) HL1.out R1.out z1 hdf1.2.2.2.1 hdf1.1 hdf1.2.1 (by omega) (by omega) (by omega) hb1 hcell6.1 hcell6.2).mono ?_; intro e y6 hx6
          obtain ⟨z, okz, rfl, hr6, hy6⟩ := hx6
          have HR6 := Lib.hid hr6
          clear hr6 hcell6
          clear kc0 kc1 kc2 jc0 jc1
          replace K1 := K1.up hy6
          replace J1 := J1.up hy6
          replace K2 := K2.up hy6
          replace J2 := J2.up hy6
          replace R1 := Lib.hid (R1.out.up hy6)
          replace R2 := Lib.hid (R2.out.up hy6)
          replace HW := Lib.hid (below_go HW.out hy6)
          clear hy6
          obtain ⟨rfl, rfl⟩ := HFIN.out (by trivial) hs _ _ HR6.out
          go_wp2
          go_ret
          exact ⟨rfl, HW.out⟩
        · have hI2 : (200 : Int) < (V.size : Int) := by omega
          go_wp2
          go_ret
          exact ⟨rfl, HW.out⟩
    · have hre := HR3.out.1 rfl
      have hxz : x.size ≤ 60 := (goodT_t hre.2.2.1).2.1
      have hcl : clOk nm2 st2 L2 kb2 ks2 bl2 x = true := by rw [clOk, hre.1, hre.2.2.1]; rfl
      have e1 := Lib.hid hcl
      have e2 := Lib.hid (show clV nm2 st2 L2 kb2 ks2 bl2 x = t2 by rw [clV_t hcl]; exact hre.2.2.2.1)
      clear hre hcl
      have kc0 := K2.cell 0; have kc1 := K2.cell 1; have kc2 := K2.cell 2; have jc0 := J2.cell 0; have jc1 := J2.cell 1
      simp only [List.getElem?_cons_zero, List.getElem?_cons_succ] at kc0 kc1 kc2 jc0 jc1
      go_wp2_with fail
      refine (impl_CallingText (t := x) (bl := bl2) HL2.out R2.out z2 hdf2.2.2.2.1 hdf2.1 hdf2.2.1 (by omega) (by omega) (by omega) hb2).mono ?_; rw [e1.out, e2.out]; rintro e y5 ⟨rfl, hy5⟩
      clear kc0 kc1 kc2 jc0 jc1
      replace K1 := K1.up hy5
      replace J1 := J1.up hy5
      replace K2 := K2.up hy5
      replace J2 := J2.up hy5
      replace R1 := Lib.hid (R1.out.up hy5)
      replace R2 := Lib.hid (R2.out.up hy5)
      replace HW := Lib.hid (below_go HW.out hy5)
      clear hy5
      rcases p
      · go_wp2
        go_ret
        exact ⟨rfl, HW.out⟩
      · by_cases hs : V.size ≤ 200
        · have hI2 : ¬ (200 : Int) < (V.size : Int) := by omega
          have hcell6 := HM.out _ HW.out
          have kc0 := K1.cell 0; have kc1 := K1.cell 1; have kc2 := K1.cell 2; have jc0 := J1.cell 0; have jc1 := J1.cell 1
          simp only [List.getElem?_cons_zero, List.getElem?_cons_succ] at kc0 kc1 kc2 jc0 jc1
          go_wp2_with fail
          refine (impl_ReadCalling (s := V) (bl := bl1) (m := mx) HL1.out R1.out z1 hdf1.2.2.2.1 hdf1.1 hdf1.2.1 (by omega) (by omega) (by omega) hb1 hcell6.1 hcell6.2).mono ?_; intro e y6 hx6
          obtain ⟨z, okz, rfl, hr6, hy6⟩ := hx6
          have HR6 := Lib.hid hr6
          clear hr6 hcell6
          clear kc0 kc1 kc2 jc0 jc1
          replace K1 := K1.up hy6
          replace J1 := J1.up hy6
          replace K2 := K2.up hy6
          replace J2 := J2.up hy6
          replace R1 := Lib.hid (R1.out.up hy6)
          replace R2 := Lib.hid (R2.out.up hy6)
          replace HW := Lib.hid (below_go HW.out hy6)
          clear hy6
          obtain ⟨rfl, rfl⟩ := HFIN.out (by trivial) hs _ _ HR6.out
          go_wp2
          go_ret
          exact ⟨rfl, HW.out⟩
        · have hI2 : (200 : Int) < (V.size : Int) := by omega
          go_wp2
          go_ret
          exact ⟨rfl, HW.out⟩
  · have hI : 1048576 < wrap64 ((l0.length : Int) + (l1.length : Int)) := by omega
    go_in
    go_wp2
    go_ret
    exact ⟨rfl, Below.refl _ _⟩
end Go.Proofs.YtidolgonmimicaaGreatDoor
