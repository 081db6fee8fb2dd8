/- Changes as plain functions: the digits of a text, the chain of places, the swaps. -/
import Derived.Test.YtoheahbkopbmhaaDoorP21
import Derived.PlainAid
namespace Go.Proofs.YtoheahbkopbmhaaDoor
set_option linter.unusedVariables false
set_option linter.unusedSimpArgs false
open Go.ChangeShapes Go.WideShapes Go.ChangeAt Go.RowKit Go.Deep

def dg (s : ByteArray) (k : Nat) : Int := PlainAid.bt s k - 48
def digs (s : ByteArray) : List Int := (List.range s.size).map (dg s)
theorem digs_len (s : ByteArray) : (digs s).length = s.size := by simp [digs]
theorem digs_at {s : ByteArray} {k : Nat} (h : k < s.size) : (digs s)[k]? = some (dg s k) := by simp [digs, h]
theorem digs_drop {s : ByteArray} {k : Nat} (h : k < s.size) : (digs s).drop k = dg s k :: (digs s).drop (k + 1) := by
  rw [List.drop_eq_getElem_cons (by rw [digs_len]; exact h)]
  have := digs_at h
  rw [List.getElem?_eq_getElem (by rw [digs_len]; exact h)] at this
  injection this with e
  rw [e]

theorem wrap_bt (s : ByteArray) (k : Nat) : wrap64 (PlainAid.bt s k) = PlainAid.bt s k := by
  have := PlainAid.bt_nonneg s k
  have := PlainAid.bt_le s k
  unfold wrap64; omega
theorem wrap_dg (s : ByteArray) (k : Nat) : wrap64 (PlainAid.bt s k - 48) = dg s k := by
  have := PlainAid.bt_nonneg s k
  have := PlainAid.bt_le s k
  unfold wrap64 dg; omega
theorem dg_in (s : ByteArray) (k : Nat) : -48 ≤ dg s k ∧ dg s k ≤ 207 := by
  have := PlainAid.bt_nonneg s k
  have := PlainAid.bt_le s k
  simp only [dg]
  omega
def stepOk (n last p : Int) : Bool := inB p (last + 1) n && !((p - last) % 2 == 0)
def chain (n : Int) : Int → List Int → Bool
  | last, [] => (n - last) % 2 == 0
  | last, p :: r => stepOk n last p && chain n p r

def isDash (c : ByteArray) : Bool := c.toList == [45]
theorem some_bytes {c : ByteArray} (h : 0 < c.size) : c.toList.isEmpty = false ∧ ¬ c.toList = [] := by
  have : ¬ c.toList = [] := fun e => by
    rw [ByteArray.toList_eq] at e
    have h1 := congrArg List.length e
    have h2 : c.data.toList.length = c.size := Array.length_toList
    rw [List.length_nil] at h1
    omega
  exact ⟨by simpa [List.isEmpty_eq_false_iff] using this, this⟩
theorem no_bytes {c : ByteArray} (h : ¬ 0 < c.size) : c.toList.isEmpty = true ∧ c.toList = [] := by
  have : c.toList = [] := by
    rw [ByteArray.toList_eq]
    apply List.eq_nil_of_length_eq_zero
    have h2 : c.data.toList.length = c.size := Array.length_toList
    omega
  exact ⟨by rw [this]; rfl, this⟩
def evenN (n : Int) : Bool := n % 2 == 0
def sizeOk (n : Int) (c : ByteArray) : Bool := decide (0 < c.size) && decide ((c.size : Int) ≤ n - 2)
def goodChange (n : Int) (c : ByteArray) : Bool :=
  inB n 3 8 && sizeOk n c && (if isDash c = true then evenN n else chain n 0 (digs c))
theorem goodChange_stage {n : Int} {c : ByteArray} (h : inB n 3 8 = false) : goodChange n c = false := by simp [goodChange, h]
theorem goodChange_size {n : Int} {c : ByteArray} (h : sizeOk n c = false) : goodChange n c = false := by simp [goodChange, h]
theorem goodChange_dash {n : Int} {c : ByteArray} (h : inB n 3 8 = true) (h1 : sizeOk n c = true) (h2 : isDash c = true) : goodChange n c = evenN n := by rw [goodChange, h, h1, if_pos h2]; rfl
theorem goodChange_chain {n : Int} {c : ByteArray} (h : inB n 3 8 = true) (h1 : sizeOk n c = true) (h2 : isDash c = false) : goodChange n c = chain n 0 (digs c) := by rw [goodChange, h, h1, if_neg (by rw [h2]; simp)]; rfl
theorem sizeOk_t {n : Int} {c : ByteArray} (h : sizeOk n c = true) : 0 < c.size ∧ (c.size : Int) ≤ n - 2 := by simpa [sizeOk] using h
theorem sizeOk_f {n : Int} {c : ByteArray} (h : sizeOk n c = false) : 0 < c.size → n - 2 < (c.size : Int) := by
  intro h0
  simp only [sizeOk, h0, decide_true, Bool.true_and, decide_eq_false_iff_not] at h
  omega

/-! swaps -/
def sws (st : Int → Bool) (n : Nat) (p : Nat) : List Int :=
  if p < n then (if st p then sws st n (p + 1) else (p : Int) :: sws st n (p + 2)) else []
termination_by n - p
theorem sws_end {st : Int → Bool} {n p : Nat} (h : ¬ p < n) : sws st n p = [] := by rw [sws, if_neg h]
theorem sws_stay {st : Int → Bool} {n p : Nat} (h : p < n) (hs : st p = true) : sws st n p = sws st n (p + 1) := by rw [sws, if_pos h, if_pos hs]
theorem sws_swap {st : Int → Bool} {n p : Nat} (h : p < n) (hs : st p = false) : sws st n p = (p : Int) :: sws st n (p + 2) := by rw [sws, if_pos h, if_neg (by rw [hs]; simp)]
def stays (c : ByteArray) (p : Int) : Bool := (digs c).contains p
def swaps (n : Nat) (c : ByteArray) : List Int := sws (stays c) n 1
theorem sws_len (st : Int → Bool) (n : Nat) : ∀ p, (sws st n p).length ≤ n - p := by
  intro p
  induction p using sws.induct st n with
  | case1 p h hs ih => rw [sws_stay h hs]; omega
  | case2 p h hs ih => rw [sws_swap h (by simpa using hs), List.length_cons]; omega
  | case3 p h => rw [sws_end h]; simp
def evenSwaps (n : Nat) (c : ByteArray) : Bool := decide ((swaps n c).length % 2 = 0)

/-! the program's own way to a good change -/
def adj : Int → List Int → Bool
  | _, [] => true
  | p, q :: r => decide (p < q) && !((q - p) % 2 == 0) && adj q r
def lastOf : Int → List Int → Int
  | p, [] => p
  | _, q :: r => lastOf q r
theorem lastOf_get : ∀ (p : Int) (r : List Int), (p :: r)[r.length]? = some (lastOf p r)
  | p, [] => rfl
  | p, q :: r => by
    rw [List.length_cons, List.getElem?_cons_succ]
    exact lastOf_get q r
theorem adj_le : ∀ (p : Int) (r : List Int), adj p r = true → p ≤ lastOf p r
  | p, [], _ => by simp [lastOf]
  | p, q :: r, h => by
    simp only [adj, Bool.and_eq_true, decide_eq_true_eq] at h
    have := adj_le q r h.2
    simp only [lastOf]
    omega
theorem chain_adj (n : Int) : ∀ (r : List Int) (x p : Int), chain n x (p :: r) = true ↔ (x < p ∧ ¬ (p - x) % 2 = 0) ∧ adj p r = true ∧ lastOf p r ≤ n ∧ (n - lastOf p r) % 2 = 0
  | [], x, p => by
    simp only [chain, stepOk, inB, adj, lastOf, Bool.and_eq_true, decide_eq_true_eq, Bool.not_eq_true', beq_eq_false_iff_ne, beq_iff_eq, ne_eq]
    constructor
    · rintro ⟨⟨⟨h1, h2⟩, h3⟩, h4⟩
      exact ⟨⟨by omega, h3⟩, trivial, h2, h4⟩
    · rintro ⟨⟨h1, h3⟩, -, h2, h4⟩
      exact ⟨⟨⟨by omega, h2⟩, h3⟩, h4⟩
  | q :: r, x, p => by
    have ih := chain_adj n r p q
    rw [chain, Bool.and_eq_true, ih]
    simp only [stepOk, inB, adj, lastOf, Bool.and_eq_true, decide_eq_true_eq, Bool.not_eq_true', beq_eq_false_iff_ne, beq_iff_eq, ne_eq]
    constructor
    · rintro ⟨⟨h1, h2⟩, ⟨h3, h4⟩, h5, h6, h7⟩
      exact ⟨⟨by omega, h2⟩, ⟨⟨h3, h4⟩, h5⟩, h6, h7⟩
    · rintro ⟨⟨h1, h2⟩, ⟨⟨h3, h4⟩, h5⟩, h6, h7⟩
      have := adj_le q r h5
      exact ⟨⟨⟨by omega, by omega⟩, h2⟩, ⟨h3, h4⟩, h5, h6, h7⟩
theorem chain_len (n : Int) : ∀ (l : List Int) (x : Int), x ≤ n → chain n x l = true → (l.length : Int) ≤ n - x ∧ (n - x - l.length) % 2 = 0
  | [], x, hx, h => by
    simp only [chain, beq_iff_eq] at h
    simp only [List.length_nil]
    omega
  | p :: r, x, hx, h => by
    simp only [chain, stepOk, inB, Bool.and_eq_true, decide_eq_true_eq, Bool.not_eq_true', beq_eq_false_iff_ne, ne_eq] at h
    have := chain_len n r p (by omega) h.2
    simp only [List.length_cons]
    omega
theorem chain_in (n : Int) : ∀ (l : List Int) (x : Int), 0 ≤ x → n ≤ 8 → chain n x l = true → (l.all fun p => inB p 1 8) = true
  | [], x, hx, hn, h => rfl
  | p :: r, x, hx, hn, h => by
    simp only [chain, stepOk, Bool.and_eq_true] at h
    have h1 := inB_t h.1.1
    rw [List.all_cons, chain_in n r p (by omega) hn h.2]
    simp [inB]
    omega
def validD (c : ByteArray) : Bool := (digs c).all fun p => inB p 1 8
def arePl (n : Int) (l : List Int) : Bool :=
  decide (0 < l.length) && !((l.length : Int) == n) && !(l.getD 0 0 % 2 == 0) && (l.getD (l.length - 1) 0 % 2 == n % 2) && decide (l.getD (l.length - 1) 0 ≤ n) && adj (l.getD 0 0) (l.drop 1)
theorem good_impl {n : Int} {c : ByteArray} (hn : 3 ≤ n ∧ n ≤ 8) (hd : isDash c = false) : goodChange n c = (validD c && arePl n (digs c)) := by
  have hs : inB n 3 8 = true := by simp [inB]; omega
  have key : (sizeOk n c && chain n 0 (digs c)) = (validD c && arePl n (digs c)) := by
    have hl := digs_len c
    rcases hg : digs c with _ | ⟨p, r⟩
    · rw [hg] at hl
      simp only [List.length_nil] at hl
      simp [sizeOk, ← hl, arePl]
    · have hl' : r.length + 1 = c.size := by rw [← hl, hg]; rfl
      have hlast : (p :: r).getD ((p :: r).length - 1) 0 = lastOf p r := by
        rw [List.length_cons, Nat.add_sub_cancel, List.getD, lastOf_get]; rfl
      rw [Bool.eq_iff_iff]
      constructor
      · intro h
        rw [Bool.and_eq_true] at h
        have h1 := sizeOk_t h.1
        have h2 := (chain_adj n r 0 p).1 h.2
        have h3 := chain_in n _ 0 (by omega) hn.2 h.2
        have hv : validD c = true := by rw [validD, hg]; exact h3
        rw [hv, Bool.true_and, arePl, hlast]
        simp only [List.length_cons, Bool.and_eq_true, decide_eq_true_eq, Bool.not_eq_true', beq_eq_false_iff_ne, ne_eq, beq_iff_eq, List.getD_cons_zero, List.drop_succ_cons, List.drop_zero]
        refine ⟨⟨⟨⟨⟨by omega, by omega⟩, by omega⟩, by omega⟩, h2.2.2.1⟩, h2.2.1⟩
      · intro h
        rw [Bool.and_eq_true, arePl, hlast] at h
        simp only [List.length_cons, Bool.and_eq_true, decide_eq_true_eq, Bool.not_eq_true', beq_eq_false_iff_ne, ne_eq, beq_iff_eq, List.getD_cons_zero, List.drop_succ_cons, List.drop_zero] at h
        obtain ⟨hv, ⟨⟨⟨⟨h1, h2⟩, h3⟩, h4⟩, h5⟩, h6⟩ := h
        have hp : 1 ≤ p := by
          rw [validD, hg, List.all_cons, Bool.and_eq_true] at hv
          exact (inB_t hv.1).1
        have hc : chain n 0 (p :: r) = true := (chain_adj n r 0 p).2 ⟨⟨by omega, by omega⟩, h6, h5, by omega⟩
        have h7 := chain_len n _ 0 (by omega) hc
        rw [List.length_cons] at h7
        rw [hc, Bool.and_true]
        simp only [sizeOk, Bool.and_eq_true, decide_eq_true_eq]
        omega
  rw [goodChange, hs, if_neg (by rw [hd]; simp), Bool.true_and, key]
theorem dash_size {n : Int} {c : ByteArray} (hn : 3 ≤ n) (hd : isDash c = true) : sizeOk n c = true := by
  have h1 : c.toList = [45] := by simpa [isDash] using hd
  rw [ByteArray.toList_eq] at h1
  have h2 : c.data.toList.length = c.size := Array.length_toList
  rw [h1] at h2
  simp only [List.length_cons, List.length_nil] at h2
  simp only [sizeOk, ← h2, Bool.and_eq_true, decide_eq_true_eq]
  omega
/-- What the program holds as the places of a change. -/
def plsOf (c : ByteArray) : List Int := if isDash c = true then [] else digs c
theorem plsOf_dash {c : ByteArray} (h : isDash c = true) : plsOf c = [] := by rw [plsOf, if_pos h]
theorem plsOf_digs {c : ByteArray} (h : isDash c = false) : plsOf c = digs c := by rw [plsOf, if_neg (by rw [h]; simp)]
theorem dash_digs {c : ByteArray} (h : isDash c = true) : digs c = [-3] := by
  have h1 : c.toList = [45] := by simpa [isDash] using h
  have hc : c = ⟨#[45]⟩ := by
    rw [ByteArray.toList_eq] at h1
    cases c with
    | mk d =>
      have : d = #[45] := by
        apply Array.ext'
        exact h1
      rw [this]
  subst hc
  rfl
theorem pls_has {c : ByteArray} {p : Int} (hp : 1 ≤ p) : (plsOf c).contains p = stays c p := by
  rcases h : isDash c
  · rw [plsOf_digs h]; rfl
  · rw [plsOf_dash h, stays, dash_digs h]
    simp
    omega
def plR (c : ByteArray) : List Int := if validD c = true then digs c else []
theorem plR_t {c : ByteArray} (h : validD c = true) : plR c = digs c := by rw [plR, if_pos h]
theorem plR_f {c : ByteArray} (h : validD c = false) : plR c = [] := by rw [plR, if_neg (by rw [h]; simp)]
theorem valid_bad {c : ByteArray} {k : Nat} (hk : k < c.size) (h : inB (dg c k) 1 8 = false) : validD c = false := by
  rcases hv : validD c
  · rfl
  · rw [validD, List.all_eq_true] at hv
    have := hv _ (List.mem_of_getElem? (digs_at hk))
    rw [h] at this
    cases this
theorem valid_good {c : ByteArray} (h : ∀ k, k < c.size → inB (dg c k) 1 8 = true) : validD c = true := by
  rw [validD, List.all_eq_true]
  intro x hx
  simp only [digs, List.mem_map, List.mem_range] at hx
  obtain ⟨k, hk, rfl⟩ := hx
  exact h k hk
theorem valid_at {c : ByteArray} (h : validD c = true) : ∀ x ∈ digs c, 1 ≤ x ∧ x ≤ 8 := by
  intro x hx
  rw [validD, List.all_eq_true] at h
  exact inB_t (h x hx)
theorem dg_low {c : ByteArray} {k : Nat} (h : PlainAid.bt c k < 49) : inB (dg c k) 1 8 = false := by
  rw [inB, decide_eq_false_iff_not, dg]
  omega
theorem dg_high {c : ByteArray} {k : Nat} (h : 56 < PlainAid.bt c k) : inB (dg c k) 1 8 = false := by
  rw [inB, decide_eq_false_iff_not, dg]
  omega
theorem dg_mid {c : ByteArray} {k : Nat} (h : ¬ PlainAid.bt c k < 49) (h' : ¬ 56 < PlainAid.bt c k) : inB (dg c k) 1 8 = true := by
  rw [inB, decide_eq_true_iff, dg]
  omega
theorem digs_take {c : ByteArray} {k : Nat} (hk : k < c.size) : (digs c).take (k + 1) = (digs c).take k ++ [dg c k] := by
  rw [List.take_add_one, digs_at hk]; rfl
theorem goodChange_n {n : Int} {c : ByteArray} (h : goodChange n c = true) : 3 ≤ n ∧ n ≤ 8 := by
  rcases hs : inB n 3 8
  · rw [goodChange_stage hs] at h; cases h
  · exact inB_t hs
theorem good_valid {n : Int} {c : ByteArray} (h : goodChange n c = true) : isDash c = true ∨ validD c = true := by
  rcases hd : isDash c
  · right
    rcases hs : inB n 3 8
    · rw [goodChange_stage hs] at h; cases h
    · rw [good_impl (inB_t hs) hd, Bool.and_eq_true] at h
      exact h.1
  · left; rfl
end Go.Proofs.YtoheahbkopbmhaaDoor
