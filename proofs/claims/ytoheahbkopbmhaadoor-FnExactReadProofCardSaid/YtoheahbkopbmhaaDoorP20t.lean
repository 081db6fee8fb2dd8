/- The text of a proof: plain. -/
import Derived.Test.YtoheahbkopbmhaaDoorW20g
import Derived.Test.YtoheahbkopbmhaaDoorDec
import Derived.Lib.Join
namespace Go.Proofs.YtoheahbkopbmhaaDoor
set_option linter.unusedVariables false
set_option linter.unusedSimpArgs false
open Go.ChangeShapes Go.WideShapes Go.ChangeAt Go.RowKit Go.Deep
def lnS (x : Line3) : ByteArray := ((((x.1 ++ ⟨#[32]⟩) ++ decS x.2.1.toNat) ++ ⟨#[46]⟩) ++ decS x.2.2.toNat) ++ ⟨#[10]⟩
def jnK (l : List ByteArray) : Nat → ByteArray
  | 0 => ⟨#[]⟩
  | k + 1 => (if 0 < k then jnK l k ++ ⟨#[32]⟩ else jnK l k) ++ l.getD k ByteArray.empty
theorem jnK_0 (l : List ByteArray) : jnK l 0 = ⟨#[]⟩ := rfl
theorem jnK_1 {l : List ByteArray} {x : ByteArray} (hx : l[0]? = some x) : jnK l 1 = jnK l 0 ++ x := by
  show (if 0 < 0 then _ else jnK l 0) ++ l.getD 0 ByteArray.empty = _
  rw [if_neg (by decide), List.getD, hx]; rfl
theorem jnK_more {l : List ByteArray} {k : Nat} {x : ByteArray} (h : 0 < k) (hx : l[k]? = some x) : jnK l (k + 1) = (jnK l k ++ ⟨#[32]⟩) ++ x := by
  rw [jnK, if_pos h, List.getD, hx]; rfl
theorem jnK_size {l : List ByteArray} (hl : ∀ s ∈ l, s.size ≤ 8) : ∀ k, k ≤ l.length → (jnK l k).size ≤ 9 * k
  | 0, _ => Nat.le_refl _
  | k + 1, h => by
    have ih := jnK_size hl k (by omega)
    obtain ⟨x, hx⟩ := some_of_lt (l := l) (k := k) (by omega)
    have h8 := hl x (List.mem_of_getElem? hx)
    by_cases h0 : 0 < k
    · rw [jnK_more h0 hx, ByteArray.size_append, ByteArray.size_append]
      have : (⟨#[32]⟩ : ByteArray).size = 1 := rfl
      omega
    · obtain rfl : k = 0 := by omega
      rw [jnK_1 hx, ByteArray.size_append]; omega
theorem joinTail_snoc (sep x : List UInt8) (r : List (List UInt8)) : Lib.joinTail sep (r ++ [x]) = Lib.joinTail sep r ++ (sep ++ x) := by simp [Lib.joinTail]
theorem join_snoc (sep x y : List UInt8) (r : List (List UInt8)) : Lib.join ((y :: r) ++ [x]) sep = (Lib.join (y :: r) sep ++ sep) ++ x := by
  rw [List.cons_append, Lib.join_cons, Lib.join_cons, joinTail_snoc]; simp
theorem jnK_join (l : List ByteArray) : ∀ k, k ≤ l.length → (jnK l k).data.toList = Lib.join ((l.take k).map (·.data.toList)) [32]
  | 0, _ => rfl
  | k + 1, h => by
    have ih := jnK_join l k (by omega)
    obtain ⟨x, hx⟩ := some_of_lt (l := l) (k := k) (by omega)
    by_cases h0 : 0 < k
    · rw [jnK_more h0 hx, take_succ_some hx, List.map_append]
      rcases ht : l.take k with _ | ⟨y, r⟩
      · have := congrArg List.length ht
        rw [List.length_take, List.length_nil] at this
        omega
      · rw [ht, List.map_cons] at ih
        rw [List.map_cons, List.map_cons, List.map_nil, join_snoc, ← ih]
        simp
    · obtain rfl : k = 0 := by omega
      rw [jnK_1 hx, take_succ_some hx]
      simp [jnK, Lib.join_one]
theorem join_jn (l : List ByteArray) : (⟨(Lib.join (l.map (·.data.toList)) (⟨#[32]⟩ : ByteArray).data.toList).toArray⟩ : ByteArray) = jnK l l.length := by
  have h := jnK_join l l.length (Nat.le_refl _)
  rw [List.take_length] at h
  apply ByteArray.ext
  show (Lib.join (l.map (·.data.toList)) [32]).toArray = _
  rw [← h]
theorem join_len (l : List ByteArray) (h : (jnK l l.length).size ≤ 1000000) : (Lib.join (l.map (·.data.toList)) (⟨#[32]⟩ : ByteArray).data.toList).length ≤ 140737488355328 := by
  have e := join_jn l
  have := congrArg ByteArray.size e
  simp only [ByteArray.size, List.size_toArray] at this h
  rw [this]; omega
def lnK (t : ByteArray) (L : List Line3) (k : Nat) : ByteArray := (L.take k).foldl (fun s x => s ++ lnS x) t
theorem lnK_0 (t : ByteArray) (L : List Line3) : lnK t L 0 = t := rfl
theorem lnK_succ {t : ByteArray} {L : List Line3} {k : Nat} {x : Line3} (hx : L[k]? = some x) : lnK t L (k + 1) = lnK t L k ++ lnS x := by
  rw [lnK, take_succ_some hx, List.foldl_append]; rfl
theorem lnS_size {x : Line3} (h1 : x.1.size ≤ 8) (h2 : x.2.1.toNat ≤ 1000) (h3 : x.2.2.toNat ≤ 1000) : (lnS x).size ≤ 40 := by
  have d1 := dec_small (n := x.2.1.toNat) (by omega)
  have d2 := dec_small (n := x.2.2.toNat) (by omega)
  have e1 : (⟨#[32]⟩ : ByteArray).size = 1 := rfl
  have e2 : (⟨#[46]⟩ : ByteArray).size = 1 := rfl
  have e3 : (⟨#[10]⟩ : ByteArray).size = 1 := rfl
  simp only [lnS, ByteArray.size_append]
  omega
theorem digOk_size {s : ByteArray} (h : digOk s = true) : s.size ≤ 8 := by
  rw [digOk, Bool.and_eq_true] at h
  have := inB_t h.2; omega
theorem goodLn_t2 {x : Line3} (h : goodLn x = true) : ∃ a b : Nat, x.2.1 = (a : Int) ∧ x.2.2 = (b : Int) ∧ a ≤ 60 ∧ b ≤ 40 ∧ x.1.size ≤ 8 := by
  rw [goodLn] at h
  simp only [Bool.and_eq_true] at h
  have h1 := inB_t h.2.1; have h2 := inB_t h.2.2
  exact ⟨x.2.1.toNat, x.2.2.toNat, by omega, by omega, by omega, by omega, digOk_size h.1⟩
theorem goodPf_t2 {lH : List ByteArray} {lL : List Line3} (h : goodPf lH lL = true) : lH.length ≤ 61 ∧ lL.length ≤ 800 ∧ (∀ s ∈ lH, s.size ≤ 8) ∧ ∀ x ∈ lL, goodLn x = true := by
  rw [goodPf] at h
  simp only [Bool.and_eq_true, decide_eq_true_eq, List.all_eq_true] at h
  exact ⟨h.1.1, h.1.2, fun s hs => digOk_size (h.2.1 s hs), h.2.2⟩
theorem lnK_size {t : ByteArray} {L : List Line3} (hL : ∀ x ∈ L, goodLn x = true) (ht : t.size ≤ 600) : ∀ k, k ≤ L.length → (lnK t L k).size ≤ 600 + 40 * k
  | 0, _ => by rw [lnK_0]; omega
  | k + 1, h => by
    have ih := lnK_size hL ht k (by omega)
    obtain ⟨x, hx⟩ := some_of_lt (l := L) (k := k) (by omega)
    obtain ⟨a, b, e1, e2, ha, hb, hs⟩ := goodLn_t2 (hL x (List.mem_of_getElem? hx))
    have := lnS_size (x := x) hs (by rw [e1]; show a ≤ 1000; omega) (by rw [e2]; show b ≤ 1000; omega)
    rw [lnK_succ hx, ByteArray.size_append]
    omega
def pfT (lH : List ByteArray) (lL : List Line3) : ByteArray := lnK (jnK lH lH.length ++ ⟨#[10]⟩) lL lL.length
def pfR (lH : List ByteArray) (lL : List Line3) : ByteArray := if goodPf lH lL = true then pfT lH lL else ⟨#[]⟩
theorem pfR_f {lH : List ByteArray} {lL : List Line3} (h : goodPf lH lL = false) : pfR lH lL = ⟨#[]⟩ := if_neg (by rw [h]; simp)
theorem pfR_t {lH : List ByteArray} {lL : List Line3} (h : goodPf lH lL = true) : pfR lH lL = pfT lH lL := if_pos h
theorem jn_600 {lH : List ByteArray} {lL : List Line3} (h : goodPf lH lL = true) : (jnK lH lH.length).size ≤ 549 := by
  have h1 := goodPf_t2 h
  have := jnK_size h1.2.2.1 lH.length (Nat.le_refl _)
  omega
end Go.Proofs.YtoheahbkopbmhaaDoor
