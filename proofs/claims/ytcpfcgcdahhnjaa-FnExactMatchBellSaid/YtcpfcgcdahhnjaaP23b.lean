/- What the check of blows computes, as plain functions on lists. -/
import Derived.Test.YtcpfcgcdahhnjaaP21
namespace Go.Proofs.Ytcpfcgcdahhnjaa
set_option linter.unusedVariables false
set_option linter.unusedSimpArgs false
abbrev Blow3 := Int × Int × Int
def sameAt (x y : Blow3) : Bool := x.1 == y.1 && x.2.1 == y.2.1
def inBlow (n : Int) (x : Blow3) : Bool := inB x.1 0 800 && inB x.2.1 1 n && inB x.2.2 0 1000000
def okB (n : Int) (l : List Blow3) (k : Nat) : Bool := inBlow n (l.getD k (0, 0, 0)) && !((l.take k).any (sameAt (l.getD k (0, 0, 0))))
def goodBlows (n : Int) (l : List Blow3) : Bool := (List.range l.length).all (okB n l) && (inB n 3 8 && decide (l.length ≤ 400))
theorem okB_out {n : Int} {l : List Blow3} {k : Nat} {x : Blow3} (h : l[k]? = some x) (hx : inBlow n x = false) : okB n l k = false := by
  simp [okB, List.getD, h, hx]
theorem okB_twice {n : Int} {l : List Blow3} {k : Nat} {x : Blow3} (h : l[k]? = some x) (hx : (l.take k).any (sameAt x) = true) : okB n l k = false := by
  simp only [okB, List.getD, h, Option.getD_some, hx]; simp
theorem okB_t {n : Int} {l : List Blow3} {k : Nat} {x : Blow3} (h : l[k]? = some x) (h1 : inBlow n x = true) (hx : (l.take k).any (sameAt x) = false) : okB n l k = true := by
  simp only [okB, List.getD, h, Option.getD_some, h1, hx]; rfl
theorem goodBlows_t {n : Int} {l : List Blow3} (h : goodBlows n l = true) : (3 ≤ n ∧ n ≤ 8) ∧ l.length ≤ 400 ∧ ∀ x ∈ l, (0 ≤ x.1 ∧ x.1 ≤ 800) ∧ (1 ≤ x.2.1 ∧ x.2.1 ≤ n) ∧ 0 ≤ x.2.2 ∧ x.2.2 ≤ 1000000 := by
  simp only [goodBlows, Bool.and_eq_true, decide_eq_true_eq, List.all_eq_true, List.mem_range] at h
  refine ⟨inB_t h.2.1, h.2.2, fun x hx => ?_⟩
  obtain ⟨j, hj, e⟩ := List.getElem_of_mem hx
  have h1 := h.1 j hj
  simp only [okB, Bool.and_eq_true] at h1
  have e1 : l.getD j (0, 0, 0) = x := by rw [List.getD_eq_getElem?_getD, List.getElem?_eq_getElem hj, e]; rfl
  rw [e1] at h1
  have h2 := h1.1
  simp only [inBlow, Bool.and_eq_true] at h2
  exact ⟨inB_t h2.1.1, inB_t h2.1.2, inB_t h2.2⟩
theorem any_take_succ {l : List Blow3} {k : Nat} {x y : Blow3} (h : l[k]? = some y) : (l.take (k + 1)).any (sameAt x) = ((l.take k).any (sameAt x) || sameAt x y) := by
  rw [take_succ_some h]; simp
def pairV (x : Blow3) : Value := .agg #[.int .i64 x.1, .int .i64 x.2.1]
theorem pairV_same {x y : Blow3} : pairV x = pairV y ↔ sameAt x y = true := by
  simp [pairV, sameAt]
def keysB (l : List Blow3) (k : Nat) : List Value := ((l.take k).map pairV).reverse
theorem keysB_succ {l : List Blow3} {k : Nat} {x : Blow3} (h : l[k]? = some x) : keysB l (k + 1) = pairV x :: keysB l k := by
  rw [keysB, take_succ_some h]; simp [keysB]
theorem keysB_mem {l : List Blow3} {k : Nat} {x : Blow3} : pairV x ∈ keysB l k ↔ (l.take k).any (sameAt x) = true := by
  rw [keysB, List.mem_reverse, List.mem_map, List.any_eq_true]
  constructor
  · rintro ⟨y, hy, e⟩
    exact ⟨y, hy, pairV_same.1 e.symm⟩
  · rintro ⟨y, hy, e⟩
    exact ⟨y, hy, (pairV_same.2 e).symm⟩
/-- The errors of blows. -/
def errAt (n x y z : Int) (b : Blow3) : Int := b.2.2 - blowAtZ x y z n b.1 b.2.1
def errOk (n : Int) (l : List Blow3) (x y z : Int) : Bool := goodBlows n l && goodBeatB x y z
def errR (n : Int) (l : List Blow3) (x y z : Int) : List Int := if errOk n l x y z = true then l.map (errAt n x y z) else []
theorem errR_t {n : Int} {l : List Blow3} {x y z : Int} (h : errOk n l x y z = true) : errR n l x y z = l.map (errAt n x y z) := by rw [errR, if_pos h]
theorem errR_f {n : Int} {l : List Blow3} {x y z : Int} (h : errOk n l x y z = false) : errR n l x y z = [] := by rw [errR, if_neg (by rw [h]; simp)]
end Go.Proofs.Ytcpfcgcdahhnjaa
