/- The ideal strikes of rows, as plain functions on lists. -/
import Derived.Test.YtcpfcgcdahhnjaaP01
namespace Go.Proofs.Ytcpfcgcdahhnjaa
set_option linter.unusedVariables false
set_option linter.unusedSimpArgs false
theorem goodRow_dig {s : ByteArray} (h : goodRow s = true) {k : Nat} (hk : k < s.size) : 1 ≤ dg s k ∧ dg s k ≤ s.size := by
  have hn := goodRow_n h
  have h1 : inB s.size 3 8 = true := by rw [inB, decide_eq_true_iff]; omega
  rw [goodRow_all h1, List.all_eq_true] at h
  have := h k (List.mem_range.2 hk)
  rw [okDig, Bool.and_eq_true] at this
  exact inB_t this.1
/-- The strikes of the first p places of row number k. -/
def rowStr (x y z : Int) (r : ByteArray) (k p : Nat) : List (Int × Int) := (List.range p).map fun q => (dg r q, blowAtZ x y z r.size k ((q : Int) + 1))
theorem rowStr_succ (x y z : Int) (r : ByteArray) (k p : Nat) : rowStr x y z r k (p + 1) = rowStr x y z r k p ++ [(dg r p, blowAtZ x y z r.size k ((p : Int) + 1))] := by
  simp [rowStr, List.range_succ]
/-- The strikes of the first k rows. -/
def idl (x y z : Int) (l : List ByteArray) : Nat → List (Int × Int)
  | 0 => []
  | k + 1 => idl x y z l k ++ rowStr x y z (l.getD k ByteArray.empty) k (l.getD k ByteArray.empty).size
theorem idl_zero (x y z : Int) (l : List ByteArray) : idl x y z l 0 = [] := rfl
theorem idl_succ {x y z : Int} {l : List ByteArray} {k : Nat} {r : ByteArray} (h : l[k]? = some r) : idl x y z l (k + 1) = idl x y z l k ++ rowStr x y z r k r.size := by
  rw [idl, List.getD, h]; rfl
theorem idl_len {x y z : Int} {l : List ByteArray} (h : ∀ s ∈ l, s.size ≤ 8) : ∀ k, k ≤ l.length → (idl x y z l k).length ≤ 8 * k
  | 0, _ => by simp [idl]
  | k + 1, hk => by
    obtain ⟨r, hr⟩ := some_of_lt (l := l) (k := k) (by omega)
    have h1 := idl_len (x := x) (y := y) (z := z) h k (by omega)
    have h2 := h r (List.mem_of_getElem? hr)
    rw [idl_succ hr, List.length_append]
    simp only [rowStr, List.length_map, List.length_range]
    omega
def idlOk (x y z : Int) (l : List ByteArray) : Bool := goodBeatB x y z && (goodRows l && goodStrikes (idl x y z l l.length))
def idlR (x y z : Int) (l : List ByteArray) : List (Int × Int) := if idlOk x y z l = true then idl x y z l l.length else []
theorem idlR_t {x y z : Int} {l : List ByteArray} (h : idlOk x y z l = true) : idlR x y z l = idl x y z l l.length := by rw [idlR, if_pos h]
theorem idlR_f {x y z : Int} {l : List ByteArray} (h : idlOk x y z l = false) : idlR x y z l = [] := by rw [idlR, if_neg (by rw [h]; simp)]
end Go.Proofs.Ytcpfcgcdahhnjaa
