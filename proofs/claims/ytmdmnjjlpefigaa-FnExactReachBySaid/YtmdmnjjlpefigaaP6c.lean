/- Plain laws of closures: the rows that some rows generate, breadth first. -/
import Derived.Test.YtmdmnjjlpefigaaP08
import Derived.Test.YtmdmnjjlpefigaaP6s
namespace Go.Proofs.Ytmdmnjjlpefigaa
set_option linter.unusedVariables false
set_option linter.unusedSimpArgs false
open Go.ChangeShapes Go.WideShapes Go.ChangeAt Go.RowKit Go.Deep
/-- A row that is good and of a stage. -/
def RowN (n : Nat) (s : ByteArray) : Prop := goodRow s = true ∧ s.size = n
theorem RowN.times {n : Nat} {a b : ByteArray} (h : RowN n a) (g : RowN n b) : RowN n (timesS a b) :=
  ⟨good_times h.1 g.1 (by rw [h.2, g.2]), by rw [timesS, strOfNums_size, timesL_len, g.2]⟩
theorem RowN.st {n : Nat} {a : ByteArray} (h : RowN n a) : 3 ≤ n ∧ n ≤ 8 := by have := goodRow_n h.1; rw [h.2] at this; exact this
theorem rowN_rounds {n : Nat} (h3 : 3 ≤ n) (h8 : n ≤ 8) : RowN n (roundsS n) := ⟨good_rounds n (by omega) h3, rounds_size n (by omega)⟩
theorem rowN_fits {n : Nat} {a b : ByteArray} (h : RowN n a) (g : RowN n b) : fits a b := fits_good g.1 (by rw [h.2, g.2])
theorem rowN_inj {n : Nat} {a b : ByteArray} (h : RowN n a) (g : RowN n b) (e : place a = place b) : a = b := place_inj h.1 g.1 (by rw [h.2, g.2]) e
theorem rowN_place {n : Nat} {a : ByteArray} (h : RowN n a) : place a < fact n := by have := place_lt a; rwa [h.2] at this
theorem fact_le8 : ∀ {n : Nat}, n ≤ 8 → fact n ≤ 40320 := fun {n} h => by
  have : ∀ n, n < 9 → fact n ≤ 40320 := of_decide_eq_true (by kernel_rfl)
  exact this n (by omega)
/-- Different rows of a stage are at most so many. -/
theorem rows_le {n : Nat} {l : List ByteArray} (hn : l.Nodup) (hg : ∀ s ∈ l, RowN n s) : l.length ≤ fact n := by
  have h1 : (l.map place).Nodup := by
    rw [List.nodup_iff_pairwise_ne, List.pairwise_map]
    rw [List.nodup_iff_pairwise_ne] at hn
    exact hn.imp_of_mem fun {x y} hx hy hne e => hne (rowN_inj (hg x hx) (hg y hy) e)
  have h2 := h1.length_le_of_subset (l₂ := List.range (fact n)) (fun p hp => by
    obtain ⟨s, hs, rfl⟩ := List.mem_map.1 hp
    exact List.mem_range.2 (rowN_place (hg s hs)))
  rw [List.length_map, List.length_range] at h2
  exact h2
/-- As many rows as there are are all of them. -/
theorem rows_all {n : Nat} {l : List ByteArray} (hn : l.Nodup) (hg : ∀ s ∈ l, RowN n s) (hl : fact n ≤ l.length) {x : ByteArray} (hx : RowN n x) : x ∈ l := by
  rcases Classical.em (x ∈ l) with h | h
  · exact h
  · have := rows_le (n := n) (l := x :: l) (List.nodup_cons.2 ⟨h, hn⟩) (fun s hs => by
      rcases List.mem_cons.1 hs with rfl | hs
      · exact hx
      · exact hg s hs)
    rw [List.length_cons] at this
    omega
/-- A product that is new comes last. -/
def inL (L : List ByteArray) (s : ByteArray) : Bool := L.any fun y => decide (y = s)
theorem inL_iff {L : List ByteArray} {s : ByteArray} : inL L s = true ↔ s ∈ L := by
  rw [inL, List.any_eq_true]
  constructor
  · rintro ⟨y, hy, e⟩
    rw [← of_decide_eq_true e]; exact hy
  · intro h
    exact ⟨s, h, decide_eq_true rfl⟩
def clAdd (x : ByteArray) (L : List ByteArray) (g : ByteArray) : List ByteArray := if inL L (timesS x g) = true then L else L ++ [timesS x g]
theorem clAdd_in {x g : ByteArray} {L : List ByteArray} (h : timesS x g ∈ L) : clAdd x L g = L := by rw [clAdd, if_pos (inL_iff.2 h)]
theorem clAdd_new {x g : ByteArray} {L : List ByteArray} (h : timesS x g ∉ L) : clAdd x L g = L ++ [timesS x g] := by rw [clAdd, if_neg (fun e => h (inL_iff.1 e))]
def clPart (gs : List ByteArray) (x : ByteArray) (j : Nat) (L : List ByteArray) : List ByteArray := (gs.take j).foldl (clAdd x) L
theorem clPart_0 (gs : List ByteArray) (x : ByteArray) (L : List ByteArray) : clPart gs x 0 L = L := rfl
theorem clPart_succ {gs : List ByteArray} {x g : ByteArray} {j : Nat} (L : List ByteArray) (h : gs[j]? = some g) : clPart gs x (j + 1) L = clAdd x (clPart gs x j L) g := by
  rw [clPart, take_succ_some h, List.foldl_append]; rfl
def clAt (gs : List ByteArray) (r : ByteArray) : Nat → List ByteArray
  | 0 => [r]
  | k + 1 => match (clAt gs r k)[k]? with
    | some x => clPart gs x gs.length (clAt gs r k)
    | none => clAt gs r k
theorem clAt_more {gs : List ByteArray} {r x : ByteArray} {k : Nat} (h : (clAt gs r k)[k]? = some x) : clAt gs r (k + 1) = clPart gs x gs.length (clAt gs r k) := by rw [clAt, h]
theorem clAt_stop {gs : List ByteArray} {r : ByteArray} {k : Nat} (h : (clAt gs r k).length ≤ k) : clAt gs r (k + 1) = clAt gs r k := by
  rw [clAt, List.getElem?_eq_none_iff.2 h]
/-- All that some rows generate. -/
def clF (n : Nat) (gs : List ByteArray) : List ByteArray := clAt gs (roundsS n) (fact n)
theorem clAdd_pre (x g : ByteArray) (L : List ByteArray) : L <+: clAdd x L g := by
  by_cases h : timesS x g ∈ L
  · rw [clAdd_in h]; exact List.prefix_refl _
  · rw [clAdd_new h]; exact List.prefix_append _ _
theorem foldl_pre (x : ByteArray) : ∀ (gs L : List ByteArray), L <+: gs.foldl (clAdd x) L
  | [], L => List.prefix_refl _
  | g :: gs, L => (clAdd_pre x g L).trans (foldl_pre x gs _)
theorem clPart_pre (gs : List ByteArray) (x : ByteArray) (j : Nat) (L : List ByteArray) : L <+: clPart gs x j L := foldl_pre x _ L
theorem clPart_step (gs : List ByteArray) (x : ByteArray) (L : List ByteArray) (j : Nat) : clPart gs x j L <+: clPart gs x (j + 1) L := by
  rcases h : gs[j]? with _ | g
  · rw [clPart, clPart, List.take_of_length_le (by rw [List.getElem?_eq_none_iff] at h; omega), List.take_of_length_le (by rw [List.getElem?_eq_none_iff] at h; omega)]
    exact List.prefix_refl _
  · rw [clPart_succ L h]; exact clAdd_pre _ _ _
theorem clPart_mono (gs : List ByteArray) (x : ByteArray) (L : List ByteArray) (i : Nat) : ∀ d, clPart gs x i L <+: clPart gs x (i + d) L
  | 0 => List.prefix_refl _
  | d + 1 => (clPart_mono gs x L i d).trans (clPart_step gs x L (i + d))
theorem clAt_step (gs : List ByteArray) (r : ByteArray) (k : Nat) : clAt gs r k <+: clAt gs r (k + 1) := by
  rcases h : (clAt gs r k)[k]? with _ | x
  · rw [clAt_stop (List.getElem?_eq_none_iff.1 h)]; exact List.prefix_refl _
  · rw [clAt_more h]; exact clPart_pre _ _ _ _
theorem clAt_mono (gs : List ByteArray) (r : ByteArray) (k : Nat) : ∀ d, clAt gs r k <+: clAt gs r (k + d)
  | 0 => List.prefix_refl _
  | d + 1 => (clAt_mono gs r k d).trans (clAt_step gs r (k + d))
theorem clAt_stays {gs : List ByteArray} {r : ByteArray} {k : Nat} (h : (clAt gs r k).length ≤ k) : ∀ d, clAt gs r (k + d) = clAt gs r k
  | 0 => rfl
  | d + 1 => by
    have e := clAt_stays h d
    rw [← Nat.add_assoc, clAt_stop (by rw [e]; omega), e]
/-! what the rows are like -/
def ClOk (n : Nat) (L : List ByteArray) : Prop := L.Nodup ∧ ∀ s ∈ L, RowN n s
theorem ClOk.add {n : Nat} {x g : ByteArray} {L : List ByteArray} (h : ClOk n L) (hx : RowN n x) (hg : RowN n g) : ClOk n (clAdd x L g) := by
  by_cases e : timesS x g ∈ L
  · rw [clAdd_in e]; exact h
  · rw [clAdd_new e]
    refine ⟨List.nodup_append.2 ⟨h.1, by simp, fun a ha b hb he => e (by rw [← List.mem_singleton.1 hb, ← he]; exact ha)⟩, fun s hs => ?_⟩
    rcases List.mem_append.1 hs with hs | hs
    · exact h.2 s hs
    · rw [List.mem_singleton.1 hs]; exact hx.times hg
theorem ClOk.fold {n : Nat} {x : ByteArray} (hx : RowN n x) : ∀ (gs L : List ByteArray), (∀ g ∈ gs, RowN n g) → ClOk n L → ClOk n (gs.foldl (clAdd x) L)
  | [], _, _, h => h
  | g :: gs, L, hg, h => ClOk.fold hx gs _ (fun y hy => hg y (List.mem_cons_of_mem _ hy)) (h.add hx (hg g (List.mem_cons_self ..)))
theorem ClOk.part {n : Nat} {x : ByteArray} {gs L : List ByteArray} (h : ClOk n L) (hx : RowN n x) (hg : ∀ g ∈ gs, RowN n g) (j : Nat) : ClOk n (clPart gs x j L) := ClOk.fold hx _ _ (fun g h => hg g (List.mem_of_mem_take h)) h
theorem clAt_ok {n : Nat} {gs : List ByteArray} {r : ByteArray} (hr : RowN n r) (hg : ∀ g ∈ gs, RowN n g) : ∀ k, ClOk n (clAt gs r k)
  | 0 => ⟨by simp [clAt], fun s hs => by rw [List.mem_singleton.1 hs]; exact hr⟩
  | k + 1 => by
    have h := clAt_ok hr hg k
    rcases e : (clAt gs r k)[k]? with _ | x
    · rw [clAt_stop (List.getElem?_eq_none_iff.1 e)]; exact h
    · rw [clAt_more e]
      exact h.part (h.2 x (List.mem_of_getElem? e)) hg _
theorem ClOk.le {n : Nat} {L : List ByteArray} (h : ClOk n L) : L.length ≤ fact n := rows_le h.1 h.2
section
variable {n : Nat} {gs : List ByteArray} {r : ByteArray}
theorem clF_ok (h3 : 3 ≤ n) (h8 : n ≤ 8) (hg : ∀ g ∈ gs, RowN n g) : ClOk n (clF n gs) := clAt_ok (rowN_rounds h3 h8) hg _
/-- Behind the last round. -/
theorem clF_end (h3 : 3 ≤ n) (h8 : n ≤ 8) (hg : ∀ g ∈ gs, RowN n g) {k : Nat} (h : (clAt gs (roundsS n) k).length = k) : clF n gs = clAt gs (roundsS n) k := by
  have h1 : k ≤ fact n := by have := (clAt_ok (rowN_rounds h3 h8) hg k).le; omega
  obtain ⟨d, e⟩ : ∃ d, fact n = k + d := ⟨fact n - k, by omega⟩
  rw [clF, e, clAt_stays (by omega)]
theorem clF_pre (h3 : 3 ≤ n) (h8 : n ≤ 8) (hg : ∀ g ∈ gs, RowN n g) (k : Nat) : clAt gs (roundsS n) k <+: clF n gs := by
  by_cases h1 : k ≤ fact n
  · obtain ⟨d, e⟩ : ∃ d, fact n = k + d := ⟨fact n - k, by omega⟩
    rw [clF, e]
    exact clAt_mono _ _ _ _
  · obtain ⟨d, e⟩ : ∃ d, k = fact n + d := ⟨k - fact n, by omega⟩
    rw [e, clAt_stays (clAt_ok (rowN_rounds h3 h8) hg _).le]
    exact List.prefix_refl _
theorem clPart_F (h3 : 3 ≤ n) (h8 : n ≤ 8) (hg : ∀ g ∈ gs, RowN n g) {k : Nat} {x : ByteArray} (hx : (clAt gs (roundsS n) k)[k]? = some x) {j : Nat} (hj : j ≤ gs.length) : clPart gs x j (clAt gs (roundsS n) k) <+: clF n gs := by
  obtain ⟨d, e⟩ : ∃ d, gs.length = j + d := ⟨gs.length - j, by omega⟩
  have h1 := clPart_mono gs x (clAt gs (roundsS n) k) j d
  rw [← e, ← clAt_more hx] at h1
  exact h1.trans (clF_pre h3 h8 hg _)
theorem clAt_first (k : Nat) : (clAt gs r k)[0]? = some r := by
  have := clAt_mono gs r 0 k
  rw [Nat.zero_add] at this
  obtain ⟨t, ht⟩ := this
  rw [← ht]; rfl
theorem clAt_pos (k : Nat) : 0 < (clAt gs r k).length := (List.getElem?_eq_some_iff.1 (clAt_first (gs := gs) (r := r) k)).1
end
end Go.Proofs.Ytmdmnjjlpefigaa
