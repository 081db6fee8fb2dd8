/- The place of a row among all rows of its stage; rows of one stage are told apart by their places. -/
import Derived.Test.YtoheahbkopbmhaaDoorP04
namespace Go.Proofs.YtoheahbkopbmhaaDoor
set_option linter.unusedVariables false
set_option linter.unusedSimpArgs false
open Go.ChangeShapes Go.WideShapes Go.ChangeAt Go.RowKit Go.Deep
def fact : Nat → Nat
  | 0 => 1
  | n + 1 => (n + 1) * fact n
theorem fact_pos : ∀ n, 0 < fact n
  | 0 => by decide
  | n + 1 => by rw [fact]; exact Nat.mul_pos (by omega) (fact_pos n)
def cnt (x : Int) (l : List Int) : Nat := l.countP fun y => decide (y < x)
theorem cnt_le (x : Int) (l : List Int) : cnt x l ≤ l.length := List.countP_le_length
theorem cnt_cons (x y : Int) (l : List Int) : cnt x (y :: l) = cnt x l + (if y < x then 1 else 0) := by
  rw [cnt, List.countP_cons, cnt]
  by_cases h : y < x <;> simp [h]
theorem cnt_mono {x y : Int} (h : x < y) : ∀ l : List Int, cnt x l ≤ cnt y l
  | [] => Nat.le_refl _
  | z :: l => by
    have := cnt_mono h l
    rw [cnt_cons, cnt_cons]
    split <;> split <;> omega
theorem cnt_lt {x y : Int} (h : x < y) : ∀ l : List Int, x ∈ l → cnt x l + 1 ≤ cnt y l
  | [], hx => by cases hx
  | z :: l, hx => by
    rw [cnt_cons, cnt_cons]
    rcases List.mem_cons.1 hx with rfl | hx
    · have := cnt_mono h l
      rw [if_neg (by omega), if_pos h]; omega
    · have := cnt_lt h l hx
      split <;> split <;> omega
def code : List Int → Nat
  | [] => 0
  | x :: r => cnt x r * fact r.length + code r
theorem code_lt : ∀ l : List Int, code l < fact l.length
  | [] => by decide
  | x :: r => by
    have h1 := code_lt r
    have h2 : (cnt x r + 1) * fact r.length ≤ (r.length + 1) * fact r.length := Nat.mul_le_mul_right _ (by have := cnt_le x r; omega)
    rw [Nat.succ_mul] at h2
    rw [code, List.length_cons, fact]
    omega
theorem code_inj : ∀ (l m : List Int), l.Perm m → code l = code m → l = m
  | [], m, h, _ => h.nil_eq
  | x :: r, [], h, _ => by have := h.length_eq; simp at this
  | x :: r, y :: q, h, e => by
    have hl : r.length = q.length := by have := h.length_eq; simpa using this
    rw [code, code, hl] at e
    have b1 := code_lt r
    have b2 := code_lt q
    rw [hl] at b1
    have ec : cnt x r = cnt y q := by
      have d1 : (cnt x r * fact q.length + code r) / fact q.length = cnt x r := by
        rw [Nat.mul_comm, Nat.mul_add_div (fact_pos _), Nat.div_eq_of_lt b1, Nat.add_zero]
      have d2 : (cnt y q * fact q.length + code q) / fact q.length = cnt y q := by
        rw [Nat.mul_comm, Nat.mul_add_div (fact_pos _), Nat.div_eq_of_lt b2, Nat.add_zero]
      rw [← d1, ← d2, e]
    have er : code r = code q := by rw [ec] at e; omega
    have px : cnt x (y :: q) = cnt x r := by
      have := h.countP_eq (fun z => decide (z < x))
      have h2 : cnt x (x :: r) = cnt x r := by rw [cnt_cons, if_neg (by omega)]; rfl
      rw [← h2]; exact this.symm
    have py : cnt y (y :: q) = cnt y q := by rw [cnt_cons, if_neg (by omega)]; rfl
    have exy : x = y := by
      rcases Int.lt_trichotomy x y with h1 | h1 | h1
      · have := cnt_lt h1 (y :: q) (h.subset (List.mem_cons_self ..)); omega
      · exact h1
      · have := cnt_lt h1 (y :: q) (List.mem_cons_self ..); omega
    subst exy
    rw [code_inj r q h.cons_inv er]
/-- Horner's way to the place. -/
def lh : Nat → List Int → Nat
  | k, [] => k
  | k, x :: r => lh (k * (r.length + 1) + cnt x r) r
theorem lh_code : ∀ (l : List Int) (k : Nat), lh k l = k * fact l.length + code l
  | [], k => by simp [lh, fact, code]
  | x :: r, k => by
    rw [lh, lh_code r, code, List.length_cons, fact, Nat.add_mul, Nat.mul_assoc]
    omega
theorem lh_le (l : List Int) (k : Nat) : k ≤ lh k l := by
  rw [lh_code]
  have := Nat.le_mul_of_pos_right k (fact_pos l.length)
  omega
def place (s : ByteArray) : Nat := code (nums s)
theorem place_lh (s : ByteArray) : place s = lh 0 (nums s) := by rw [lh_code, Nat.zero_mul, Nat.zero_add, place]
theorem place_lt (s : ByteArray) : place s < fact s.size := by have := code_lt (nums s); rwa [nums_len] at this
theorem place_rounds : ∀ n, n < 9 → place (roundsS n) = 0 := of_decide_eq_true (by kernel_rfl)
theorem nums_inj {a b : ByteArray} (h : nums a = nums b) : a = b := by
  have hs : a.size = b.size := by have := congrArg List.length h; rwa [nums_len, nums_len] at this
  apply ByteArray.ext_getElem hs
  intro i h1 h2
  have e : (nums a)[i]? = (nums b)[i]? := by rw [h]
  rw [nums_at h1, nums_at h2, PlainAid.bt, PlainAid.bt, dif_pos h1, dif_pos h2] at e
  injection e with e
  exact UInt8.toNat_inj.1 (by omega)
/-! rows as lists without repeats -/
def isRowL (l : List Int) : Prop := l.Nodup ∧ ∀ z ∈ l, 49 ≤ z ∧ z ≤ 48 + (l.length : Int)
theorem goodRow_list {s : ByteArray} (h : goodRow s = true) : isRowL (nums s) := by
  rw [goodRow, Bool.and_eq_true, List.all_eq_true] at h
  have hd : ∀ k, k < s.size → okDig s k = true := fun k hk => h.2 k (List.mem_range.2 hk)
  refine ⟨?_, fun z hz => ?_⟩
  · rw [List.nodup_iff_pairwise_ne, List.pairwise_iff_getElem]
    intro i j hi hj hij e
    rw [nums_len] at hi hj
    have h1 := nums_at hi; have h2 := nums_at hj
    rw [List.getElem?_eq_getElem (by rw [nums_len]; exact hi)] at h1
    rw [List.getElem?_eq_getElem (by rw [nums_len]; exact hj)] at h2
    injection h1 with h1; injection h2 with h2
    have hj2 := hd j hj
    rw [okDig, Bool.and_eq_true, List.all_eq_true] at hj2
    have := hj2.2 i (List.mem_range.2 hij)
    simp only [fresh, Bool.not_eq_true', beq_eq_false_iff_ne, dg] at this
    omega
  · obtain ⟨k, hk⟩ := List.getElem?_of_mem hz
    have hkl := (List.getElem?_eq_some_iff.1 hk).1
    rw [nums_len] at hkl
    rw [nums_at hkl] at hk
    injection hk with hk
    have := hd k hkl
    rw [okDig, Bool.and_eq_true] at this
    have := inB_t this.1
    rw [nums_len]
    simp only [dg] at this
    omega
theorem goodRow_of {s : ByteArray} (hn : 3 ≤ s.size ∧ s.size ≤ 8) (h : isRowL (nums s)) : goodRow s = true := by
  rw [goodRow, Bool.and_eq_true, List.all_eq_true]
  refine ⟨by rw [inB, decide_eq_true_iff]; omega, fun k hk => ?_⟩
  have hk := List.mem_range.1 hk
  rw [okDig, Bool.and_eq_true, List.all_eq_true]
  refine ⟨?_, fun j hj => ?_⟩
  · have := h.2 _ (List.mem_of_getElem? (nums_at hk))
    rw [nums_len] at this
    rw [inB, decide_eq_true_iff, dg]; omega
  · have hj := List.mem_range.1 hj
    have hp := h.1
    rw [List.nodup_iff_pairwise_ne, List.pairwise_iff_getElem] at hp
    have hne := hp j k (by rw [nums_len]; omega) (by rw [nums_len]; omega) hj
    have h1 := nums_at (s := s) (k := j) (by omega); have h2 := nums_at hk
    rw [List.getElem?_eq_getElem (by rw [nums_len]; omega)] at h1
    rw [List.getElem?_eq_getElem (by rw [nums_len]; exact hk)] at h2
    injection h1 with h1; injection h2 with h2
    simp only [fresh, Bool.not_eq_true', beq_eq_false_iff_ne, dg, ne_eq]
    omega
theorem all_of_len {α : Type} [BEq α] [LawfulBEq α] {l R : List α} (hn : l.Nodup) (hs : l ⊆ R) (hl : R.length ≤ l.length) {x : α} (hx : x ∈ R) : x ∈ l := by
  rcases Classical.em (x ∈ l) with h | h
  · exact h
  · have h2 : (x :: l).Nodup := List.nodup_cons.2 ⟨h, hn⟩
    have h3 := h2.length_le_of_subset (l₂ := R) (fun y hy => by
      rcases List.mem_cons.1 hy with rfl | hy
      · exact hx
      · exact hs hy)
    rw [List.length_cons] at h3
    omega
def rowSet (n : Nat) : List Int := (List.range n).map fun k : Nat => 49 + (k : Int)
theorem mem_rowSet {n : Nat} {z : Int} : z ∈ rowSet n ↔ 49 ≤ z ∧ z ≤ 48 + (n : Int) := by
  rw [rowSet, List.mem_map]
  constructor
  · rintro ⟨k, hk, rfl⟩
    have := List.mem_range.1 hk
    omega
  · rintro ⟨h1, h2⟩
    exact ⟨(z - 49).toNat, List.mem_range.2 (by omega), by omega⟩
theorem rowSet_len (n : Nat) : (rowSet n).length = n := by rw [rowSet, List.length_map, List.length_range]
theorem isRowL_mem {l : List Int} (h : isRowL l) {z : Int} : z ∈ l ↔ 49 ≤ z ∧ z ≤ 48 + (l.length : Int) := by
  refine ⟨h.2 z, fun hz => all_of_len (R := rowSet l.length) h.1 (fun y hy => mem_rowSet.2 (h.2 y hy)) (by rw [rowSet_len]; omega) (mem_rowSet.2 hz)⟩
theorem row_perm {l m : List Int} (h : isRowL l) (g : isRowL m) (e : l.length = m.length) : l.Perm m :=
  (List.perm_ext_iff_of_nodup h.1 g.1).2 fun z => by rw [isRowL_mem h, isRowL_mem g, e]
theorem place_inj {a b : ByteArray} (h : goodRow a = true) (g : goodRow b = true) (e : a.size = b.size) (hp : place a = place b) : a = b :=
  nums_inj (code_inj _ _ (row_perm (goodRow_list h) (goodRow_list g) (by rw [nums_len, nums_len, e])) hp)
/-! products and changes of rows are rows -/
theorem rowL_times {a b : ByteArray} (h : isRowL (nums a)) (g : isRowL (nums b)) (e : a.size = b.size) : isRowL (timesL a b) := by
  have hbt : ∀ z ∈ nums b, PlainAid.bt a (z - 49).toNat ∈ nums a ∧ (z - 49).toNat < a.size := fun z hz => by
    have := g.2 z hz
    rw [nums_len] at this
    exact ⟨List.mem_of_getElem? (nums_at (k := (z - 49).toNat) (by omega)), by omega⟩
  refine ⟨?_, fun z hz => ?_⟩
  · rw [timesL, List.nodup_iff_pairwise_ne, List.pairwise_map]
    have hp := g.1
    rw [List.nodup_iff_pairwise_ne] at hp
    refine hp.imp_of_mem fun {x y} hx hy hne he => hne ?_
    have h1 := hbt x hx; have h2 := hbt y hy
    have h3 := h.1
    rw [List.nodup_iff_pairwise_ne, List.pairwise_iff_getElem] at h3
    have bx := g.2 x hx; have by' := g.2 y hy
    have at1 := nums_at h1.2; have at2 := nums_at h2.2
    rw [List.getElem?_eq_getElem (by rw [nums_len]; exact h1.2)] at at1
    rw [List.getElem?_eq_getElem (by rw [nums_len]; exact h2.2)] at at2
    injection at1 with at1; injection at2 with at2
    rcases Nat.lt_trichotomy (x - 49).toNat (y - 49).toNat with q | q | q
    · exact absurd (by rw [at1, at2]; exact he) (h3 _ _ (by rw [nums_len]; exact h1.2) (by rw [nums_len]; exact h2.2) q)
    · omega
    · exact absurd (by rw [at1, at2]; exact he.symm) (h3 _ _ (by rw [nums_len]; exact h2.2) (by rw [nums_len]; exact h1.2) q)
  · rw [timesL, List.mem_map] at hz
    obtain ⟨x, hx, rfl⟩ := hz
    have := h.2 _ (hbt x hx).1
    rw [timesL_len, ← e]
    rw [nums_len] at this
    exact this
theorem rowL_bytes {l : List Int} (h : isRowL l) (hl : l.length ≤ 8) : ∀ x ∈ l, 0 ≤ x ∧ x < 256 := fun x hx => by have := h.2 x hx; omega
theorem good_times {a b : ByteArray} (h : goodRow a = true) (g : goodRow b = true) (e : a.size = b.size) : goodRow (timesS a b) = true := by
  have hn := goodRow_n h
  have hr := rowL_times (goodRow_list h) (goodRow_list g) e
  have hl : (timesL a b).length ≤ 8 := by rw [timesL_len]; omega
  exact goodRow_of (by rw [timesS, strOfNums_size, timesL_len]; omega) (by rw [timesS, nums_strOf (rowL_bytes hr hl)]; exact hr)
theorem cval_ne {l : List Int} (hl : ∀ x ∈ l, x + 1 ∉ l) {i j : Nat} (h : i < j) : cval l i ≠ cval l j := by
  intro e
  have a1 : l.contains ((i : Int) + 1) = true → l.contains ((i : Int) + 2) = false := fun q => by
    rcases q2 : l.contains ((i : Int) + 2)
    · rfl
    · exact absurd (show (i : Int) + 1 + 1 ∈ l by rw [show (i : Int) + 1 + 1 = (i : Int) + 2 by omega]; simpa using q2) (hl _ (by simpa using q))
  have a2 : l.contains ((i : Int) + 1) = true → l.contains (i : Int) = false := fun q => by
    rcases q2 : l.contains (i : Int)
    · rfl
    · exact absurd (show (i : Int) + 1 ∈ l by simpa using q) (hl _ (by simpa using q2))
  have a3 : l.contains ((j : Int) + 1) = true → l.contains (j : Int) = false := fun q => by
    rcases q2 : l.contains (j : Int)
    · rfl
    · exact absurd (show (j : Int) + 1 ∈ l by simpa using q) (hl _ (by simpa using q2))
  rw [cval, cval] at e
  by_cases e1 : j = i + 1
  · subst e1
    rw [show ((i + 1 : Nat) : Int) + 1 = (i : Int) + 2 by omega, show ((i + 1 : Nat) : Int) = (i : Int) + 1 by omega] at e
    rcases q1 : l.contains ((i : Int) + 1)
    · rw [q1] at e
      rcases q2 : l.contains ((i : Int) + 2) <;> rcases q3 : l.contains (i : Int) <;> rw [q2, q3] at e <;> simp at e <;> omega
    · rw [q1, a1 q1] at e
      simp at e; omega
  · by_cases e2 : j = i + 2
    · subst e2
      rw [show ((i + 2 : Nat) : Int) + 1 = (i : Int) + 3 by omega, show ((i + 2 : Nat) : Int) = (i : Int) + 2 by omega] at e
      rcases q1 : l.contains ((i : Int) + 1)
      · rw [q1] at e
        rcases q2 : l.contains ((i : Int) + 2) <;> rcases q3 : l.contains (i : Int) <;> rcases q4 : l.contains ((i : Int) + 3) <;> rw [q2, q3, q4] at e <;> simp at e <;> omega
      · rw [q1, a1 q1] at e
        rcases q4 : l.contains ((i : Int) + 3) <;> rw [q4] at e <;> simp at e <;> omega
    · rcases q1 : l.contains ((i : Int) + 1) <;> rcases q2 : l.contains ((j : Int) + 1) <;> rcases q3 : l.contains (i : Int) <;> rcases q4 : l.contains (j : Int) <;> rw [q1, q2, q3, q4] at e <;> simp at e <;> omega
theorem far_next {l : List Int} (h : l.Pairwise fun x y => x + 2 ≤ y) : ∀ x ∈ l, x + 1 ∉ l := by
  intro x hx hy
  obtain ⟨i, hi⟩ := List.getElem?_of_mem hx
  obtain ⟨j, hj⟩ := List.getElem?_of_mem hy
  rw [List.pairwise_iff_getElem] at h
  have hil := (List.getElem?_eq_some_iff.1 hi).1
  have hjl := (List.getElem?_eq_some_iff.1 hj).1
  rw [List.getElem?_eq_getElem hil] at hi
  rw [List.getElem?_eq_getElem hjl] at hj
  injection hi with hi; injection hj with hj
  rcases Nat.lt_trichotomy i j with q | q | q
  · have := h i j hil hjl q; omega
  · subst q; omega
  · have := h j i hjl hil q; omega
theorem rowL_ch (n : Nat) (c : ByteArray) : isRowL (rowV n (swaps n c)) := by
  have hf := far_next (sws_far (stays c) n 1)
  refine ⟨?_, fun z hz => ?_⟩
  · rw [List.nodup_iff_pairwise_ne, List.pairwise_iff_getElem]
    intro i j hi hj hij
    simp only [rowV, List.getElem_map, List.getElem_range]
    exact cval_ne hf hij
  · rw [rowV, List.mem_map] at hz
    obtain ⟨j, hj, rfl⟩ := hz
    have := cval_in (n := n) (List.mem_range.1 hj) (sws_in (stays c) n 1)
    rw [rowV_len]; exact this
theorem good_ch {n : Nat} (hn : 3 ≤ n ∧ n ≤ 8) (c : ByteArray) : goodRow (chRow n c) = true := by
  have hr := rowL_ch n c
  refine goodRow_of (by rw [chRow_size]; exact hn) ?_
  rw [chRow, nums_strOf (rowL_bytes hr (by rw [rowV_len]; omega))]
  exact hr
theorem good_apply {a : ByteArray} (h : goodRow a = true) (c : ByteArray) : goodRow (applyR a c) = true :=
  good_times h (good_ch (goodRow_n h) c) (chRow_size _ _).symm
theorem good_rounds : ∀ n, n < 9 → 3 ≤ n → goodRow (roundsS n) = true := of_decide_eq_true (by kernel_rfl)
end Go.Proofs.YtoheahbkopbmhaaDoor
