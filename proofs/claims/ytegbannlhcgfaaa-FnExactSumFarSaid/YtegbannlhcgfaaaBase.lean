/- Plain words for slices that read as lists, kept over worlds that only grow. -/
import Derived.WalkKit
import Derived.ProofKit
import Derived.OpenShut
import Derived.Handy
import Derived.Lib.Hide
import Derived.Deep.LoopGhost
import Derived.Deep.OwnRows
import Derived.Deep.Draws
import Derived.Deep.QuietTactic
import Derived.BigQuiet
import Derived.Deep.RegionWith
import Derived.Deep.Slices
import Derived.Deep.Fields
import Derived.ChangeSame
namespace Go.Proofs.Ytegbannlhcgfaaa
set_option linter.unusedVariables false
set_option linter.unusedSimpArgs false
open Go.ChangeShapes Go.WideShapes Go.ChangeAt Go.RowKit Go.Deep

/-! ### Worlds -/
theorem bcell {W w1 : World} (hb : Below W.heap.size W w1) : (∀ b o, b < W.heap.size → w1.cell? ⟨b, o, none⟩ = W.cell? ⟨b, o, none⟩) ∧ (∀ b o, b < W.heap.size → w1.frozen? ⟨b, o, none⟩ = W.frozen? ⟨b, o, none⟩) :=
  ⟨fun b o h => hb.cell (p := ⟨b, o, none⟩) h, fun b o h => hb.frozen (p := ⟨b, o, none⟩) h⟩
theorem below_drewN {B : Nat} {a w : World} (h : Below B a w) (n : Nat) : Below B a (w.drewN n) := ⟨h.os, h.tape, h.output, h.size, h.block⟩
theorem below_then {B : Nat} {a W w1 : World} (h1 : Below W.heap.size W w1) (h0 : Below B a W) (hB : B ≤ W.heap.size) : Below B a w1 := h0.trans (h1.mono hB)

theorem below_alloc {a W : World} (h0 : Below a.heap.size a W) (o : Obj) : Below a.heap.size a (W.alloc o) := h0.alloc h0.size o
theorem below_go {a W w1 : World} (h0 : Below a.heap.size a W) (h1 : Below W.heap.size W w1) : Below a.heap.size a w1 := h0.trans (h1.mono h0.size)

/-- A block of the call's own that is known from its head on (a boxed struct, a local). -/
def Box (w : World) (b : Nat) (cs : List Value) : Prop := ∀ i v, cs[i]? = some v → w.cell? ⟨b, i, none⟩ = some v
theorem Box.new (w : World) (cs : List Value) (t : TypeId) : Box (w.alloc (.cells ⟨cs⟩ t)) w.heap.size cs := fun i v h => by
  have := cell_of_row (w.alloc (.cells ⟨cs⟩ t)) w.heap.size i ⟨cs⟩ t (0, 0) (heap_alloc_new w _)
  rw [this]
  simpa using h
theorem Box.up {w w1 : World} {b : Nat} {cs : List Value} (h : Box w b cs) (hb : Below w.heap.size w w1) : Box w1 b cs := fun i v hv => by
  have h1 := h i v hv
  exact (hb.cell (World.block_lt_of_cell? w _ h1)).trans h1
theorem Box.alloc {w : World} {b : Nat} {cs : List Value} (h : Box w b cs) (o : Obj) : Box (w.alloc o) b cs := h.up ((Below.refl _ _).alloc (Nat.le_refl _) _)
theorem Box.drewN {w : World} {b : Nat} {cs : List Value} (h : Box w b cs) (n : Nat) : Box (w.drewN n) b cs := h

theorem quiet_add_left {P : Program} {f : FuncId} {args : Array Value} {w : World} {a n : Nat} {v : Value}
    (h : Calls P f args (w.drewN (a + n)) fun e w' => e = .returned v ∧ w.drewN (a + n) = w') :
    Calls P f args (w.drewN (a + n)) fun e w'' => e = .returned v ∧ ∃ m, w'' = w.drewN (a + m) :=
  h.mono fun _ _ ⟨he, hm⟩ => ⟨he, n, hm.symm⟩
theorem quiet_left {P : Program} {f : FuncId} {args : Array Value} {w : World} {n : Nat} {v : Value}
    (h : Calls P f args (w.drewN n) fun e w' => e = .returned v ∧ w.drewN n = w') : Calls P f args (w.drewN n) fun e w'' => e = .returned v ∧ ∃ m, w'' = w.drewN m :=
  h.mono fun _ _ ⟨he, hm⟩ => ⟨he, n, hm.symm⟩

/-! ### Slices that read as lists -/
/-- The slice with address A and n elements of 'size' cells reads as the cells xs. -/
def Rd (w : World) (A : Option Addr) (size n : Nat) (xs : List Value) : Prop :=
  xs.length = n * size ∧ (0 < n → ∃ b off, A = some ⟨b, off, none⟩ ∧ b < w.heap.size ∧ ∀ j u, xs[j]? = some u → w.cell? ⟨b, off + j, none⟩ = some u)

section
variable {w w' : World} {size n : Nat} {A : Option Addr} {xs : List Value}
theorem Rd.none_ (w : World) (A : Option Addr) (size : Nat) : Rd w A size 0 [] := ⟨by simp, fun h => absurd h (by omega)⟩
theorem Rd.below {B : Nat} (h : Rd w A size n xs) (hb : Below B w w') (hB : w.heap.size ≤ B) : Rd w' A size n xs :=
  ⟨h.1, fun hn => by
    obtain ⟨b, off, e, hlt, hc⟩ := h.2 hn
    exact ⟨b, off, e, Nat.lt_of_lt_of_le hlt hb.size, fun j u hu => (hb.cell (p := ⟨b, off + j, none⟩) (by show b < B; omega)).trans (hc j u hu)⟩⟩
theorem Rd.up (h : Rd w A size n xs) (hb : Below w.heap.size w w') : Rd w' A size n xs := h.below hb (Nat.le_refl _)
theorem Rd.at1 {k : Nat} (h : Rd w A 1 n xs) (hk : k < n) : ∃ b off u, A = some ⟨b, off, none⟩ ∧ b < w.heap.size ∧ xs[k]? = some u ∧ w.cell? ⟨b, off + k, none⟩ = some u := by
  obtain ⟨b, off, e, hb, hc⟩ := h.2 (by omega)
  have hl : k < xs.length := by have := h.1; omega
  exact ⟨b, off, xs[k], e, hb, List.getElem?_eq_getElem hl, hc k _ (List.getElem?_eq_getElem hl)⟩
/-- A row of the call's own, known cell by cell. -/
theorem Rd.of_row {b : Nat} {t : TypeId} {f : Nat → Value} (h : w.rowIs b t (n * size) f) (hl : xs.length = n * size) (hf : ∀ j, j < n * size → f j = xs.getD j undef) : Rd w (some ⟨b, 0, none⟩) size n xs := by
  refine ⟨hl, fun _ => ⟨b, 0, rfl, h.lt, fun j u hu => ?_⟩⟩
  have hj : j < n * size := by
    have := (List.getElem?_eq_some_iff.1 hu).1
    omega
  have := h.cell hj
  rw [hf j hj] at this
  rw [Nat.zero_add, this]
  simp [List.getD, hu]
theorem Rd.of_own {base : Nat} {e : TypeId} {c : Nat} (h : w.ownsRow base e size (.slice A n c) n xs) : Rd w A size n xs := by
  refine ⟨h.1, fun hn => ?_⟩
  rcases h.2 with ⟨_, h0⟩ | ⟨g, cap, cur, hv, hg, hh, hnc, hcap, hsz, htake⟩
  · omega
  · have hA : A = some ⟨g, 0, none⟩ := by injection hv
    subst hA
    refine ⟨g, 0, rfl, ?_, fun j u hu => ?_⟩
    · exact (Array.getElem?_eq_some_iff.1 hh).1
    · have := h.cells (g := g) rfl j u hu
      rwa [Go.WideShapes.add_plain] at this
end

/-! ### Slices of records: every element is laid as 'e' lays it -/
theorem flatMap_at {α : Type} {e : α → List Value} {s : Nat} (he : ∀ x, (e x).length = s) : ∀ (l : List α) (k : Nat) (x : α) (j : Nat), l[k]? = some x → j < s → (l.flatMap e)[k * s + j]? = (e x)[j]?
  | [], k, x, j, h, _ => by simp at h
  | y :: l, 0, x, j, h, hj => by
    simp at h
    subst h
    rw [List.flatMap_cons, Nat.zero_mul, Nat.zero_add, List.getElem?_append_left (by rw [he]; exact hj)]
  | y :: l, k + 1, x, j, h, hj => by
    rw [List.flatMap_cons, List.getElem?_append_right (by rw [he, Nat.succ_mul]; omega), he]
    rw [show (k + 1) * s + j - s = k * s + j by rw [Nat.succ_mul]; omega]
    exact flatMap_at he l k x j (by simpa using h) hj
theorem flatMap_len {α : Type} {e : α → List Value} {s : Nat} (he : ∀ x, (e x).length = s) (l : List α) : (l.flatMap e).length = l.length * s := by
  induction l with
  | nil => simp
  | cons y l ih => rw [List.flatMap_cons, List.length_append, he, ih, List.length_cons, Nat.succ_mul]; omega

def Recs {α : Type} (e : α → List Value) (s : Nat) (w : World) (A : Option Addr) (l : List α) : Prop := (∀ x, (e x).length = s) ∧ Rd w A s l.length (l.flatMap e)
section
variable {α : Type} {e : α → List Value} {s : Nat} {w w' : World} {A : Option Addr} {l : List α}
theorem Recs.up (h : Recs e s w A l) (hb : Below w.heap.size w w') : Recs e s w' A l := ⟨h.1, h.2.up hb⟩
theorem Recs.below {B : Nat} (h : Recs e s w A l) (hb : Below B w w') (hB : w.heap.size ≤ B) : Recs e s w' A l := ⟨h.1, h.2.below hb hB⟩
theorem Recs.cells (h : Recs e s w A l) (hn : 0 < l.length) : ∃ b off, A = some ⟨b, off, none⟩ ∧ b < w.heap.size ∧ ∀ (k : Nat) (x : α) (j : Nat) (u : Value), l[k]? = some x → (e x)[j]? = some u → w.cell? ⟨b, off + k * s + j, none⟩ = some u := by
  obtain ⟨b, off, hA, hb, hc⟩ := h.2.2 hn
  refine ⟨b, off, hA, hb, fun k x j u hk hu => ?_⟩
  have hj : j < s := by rw [← h.1 x]; exact (List.getElem?_eq_some_iff.1 hu).1
  rw [Nat.add_assoc]
  exact hc _ _ ((flatMap_at h.1 l k x j hk hj).trans hu)
theorem some_of_lt {k : Nat} (hk : k < l.length) : ∃ x, l[k]? = some x := ⟨l[k], List.getElem?_eq_getElem hk⟩
end

/-! ### Numbers, texts, bools: one cell each -/
def intE (z : Int) : List Value := [.int .i64 z]
def strE (s : ByteArray) : List Value := [.string s]
def boolE (b : Bool) : List Value := [.bool b]
theorem intE_len (z : Int) : (intE z).length = 1 := rfl
theorem strE_len (s : ByteArray) : (strE s).length = 1 := rfl
theorem boolE_len (b : Bool) : (boolE b).length = 1 := rfl
theorem flatMap_one {α : Type} (f : α → Value) (l : List α) : l.flatMap (fun x => [f x]) = l.map f := by
  induction l with
  | nil => rfl
  | cons y l ih => simp [ih]
abbrev Ints := Recs intE 1
abbrev Strs := Recs strE 1
abbrev Bools := Recs boolE 1
section
variable {w : World} {A : Option Addr}
theorem Recs.at_int {l : List Int} {k : Nat} (h : Ints w A l) (hk : k < l.length) : ∃ b off x, A = some ⟨b, off, none⟩ ∧ b < w.heap.size ∧ l[k]? = some x ∧ w.cell? ⟨b, off + k, none⟩ = some (.int .i64 x) := by
  obtain ⟨b, off, hA, hb, hc⟩ := h.cells (by omega)
  obtain ⟨x, hx⟩ := some_of_lt hk
  exact ⟨b, off, x, hA, hb, hx, by simpa using hc k x 0 _ hx rfl⟩
theorem Recs.at_str {l : List ByteArray} {k : Nat} (h : Strs w A l) (hk : k < l.length) : ∃ b off x, A = some ⟨b, off, none⟩ ∧ b < w.heap.size ∧ l[k]? = some x ∧ w.cell? ⟨b, off + k, none⟩ = some (.string x) := by
  obtain ⟨b, off, hA, hb, hc⟩ := h.cells (by omega)
  obtain ⟨x, hx⟩ := some_of_lt hk
  exact ⟨b, off, x, hA, hb, hx, by simpa using hc k x 0 _ hx rfl⟩
theorem Recs.at_bool {l : List Bool} {k : Nat} (h : Bools w A l) (hk : k < l.length) : ∃ b off x, A = some ⟨b, off, none⟩ ∧ b < w.heap.size ∧ l[k]? = some x ∧ w.cell? ⟨b, off + k, none⟩ = some (.bool x) := by
  obtain ⟨b, off, hA, hb, hc⟩ := h.cells (by omega)
  obtain ⟨x, hx⟩ := some_of_lt hk
  exact ⟨b, off, x, hA, hb, hx, by simpa using hc k x 0 _ hx rfl⟩
theorem Recs.at_2 {α : Type} {f g : α → Value} {l : List α} {k : Nat} {x : α} (h : Recs (fun x => [f x, g x]) 2 w A l) (hx : l[k]? = some x) :
    ∃ b off, A = some ⟨b, off, none⟩ ∧ b < w.heap.size ∧ w.cell? ⟨b, off + k * 2, none⟩ = some (f x) ∧ w.cell? ⟨b, off + k * 2 + 1, none⟩ = some (g x) := by
  have hk := (List.getElem?_eq_some_iff.1 hx).1
  obtain ⟨b, off, hA, hb, hc⟩ := h.cells (by omega)
  exact ⟨b, off, hA, hb, by simpa using hc k x 0 _ hx rfl, hc k x 1 _ hx rfl⟩
theorem Recs.at_3 {α : Type} {f g q : α → Value} {l : List α} {k : Nat} {x : α} (h : Recs (fun x => [f x, g x, q x]) 3 w A l) (hx : l[k]? = some x) :
    ∃ b off, A = some ⟨b, off, none⟩ ∧ b < w.heap.size ∧ w.cell? ⟨b, off + k * 3, none⟩ = some (f x) ∧ w.cell? ⟨b, off + k * 3 + 1, none⟩ = some (g x) ∧ w.cell? ⟨b, off + k * 3 + 2, none⟩ = some (q x) := by
  have hk := (List.getElem?_eq_some_iff.1 hx).1
  obtain ⟨b, off, hA, hb, hc⟩ := h.cells (by omega)
  exact ⟨b, off, hA, hb, by simpa using hc k x 0 _ hx rfl, hc k x 1 _ hx rfl, hc k x 2 _ hx rfl⟩
end

/-! ### A row that is being filled, element by element -/
/-- Block g is the row of l's elements as far as k, and z's cells behind. -/
def Filled {α : Type} (e : α → List Value) (s : Nat) (w : World) (g : Nat) (t : TypeId) (z : α) (l : List α) (k : Nat) : Prop :=
  (∀ x, (e x).length = s) ∧ w.rowIs g t (l.length * s) (fun j => if j < k * s then (l.flatMap e).getD j undef else (e z).getD (j % s) undef)
section
variable {α : Type} {e : α → List Value} {s : Nat} {w w' : World} {g : Nat} {t : TypeId} {z : α} {l : List α} {k : Nat}
theorem Filled.start (he : ∀ x, (e x).length = s) (w : World) (t : TypeId) (z : α) (l : List α) : Filled e s (w.alloc (.cells (madeCells (e z).toArray (l.length * s)) t)) w.heap.size t z l 0 := by
  refine ⟨he, _, blk_alloc_new _ _, by simp [madeCells], fun j hj => ?_⟩
  show _ = some (if j < 0 * s then (l.flatMap e).getD j undef else (e z).getD (j % s) undef)
  rw [if_neg (by omega)]
  have hs : 0 < s := by
    rcases Nat.eq_zero_or_pos s with h | h
    · subst h; omega
    · exact h
  have hm : j % s < (e z).length := by rw [he]; exact Nat.mod_lt _ hs
  simp [madeCells, hj, he, List.getD, List.getElem?_eq_getElem hm]
theorem Filled.kept (h : Filled e s w g t z l k) (hb : w'.heap[g]? = w.heap[g]?) : Filled e s w' g t z l k := ⟨h.1, h.2.of_block hb⟩
theorem Filled.up (h : Filled e s w g t z l k) (hb : Below w.heap.size w w') : Filled e s w' g t z l k := h.kept (hb.block g h.2.lt)
theorem Filled.lt (h : Filled e s w g t z l k) : g < w.heap.size := h.2.lt
theorem Filled.done (h : Filled e s w g t z l k) (hk : k = l.length) : Recs e s w (some ⟨g, 0, none⟩) l := by
  subst hk
  exact ⟨h.1, Rd.of_row h.2 (flatMap_len h.1 l) fun j hj => by rw [if_pos hj]⟩
theorem Filled.old (h : Filled e s w g t z l k) {j : Nat} (hj : j < l.length * s) : ∃ v, w.cell? ⟨g, j, none⟩ = some v := ⟨_, h.2.cell hj⟩
theorem Filled.frozen (h : Filled e s w g t z l k) (j : Nat) : w.frozen? ⟨g, j, none⟩ = false := h.2.frozen j
theorem Filled.put1 {f : α → Value} (h : Filled (fun x => [f x]) 1 w g t z l k) {x : α} (hx : l[k]? = some x) : Filled (fun x => [f x]) 1 (w.setCell ⟨g, k, none⟩ (f x)) g t z l (k + 1) := by
  refine ⟨h.1, (h.2.set k (f x)).congr fun j hj => ?_⟩
  have hf := flatMap_at h.1 l k x 0 hx (by omega)
  simp only [Nat.mul_one, Nat.add_zero] at hf hj ⊢
  by_cases e1 : j = k
  · subst e1
    rw [if_pos rfl, if_pos (by omega)]
    simp [List.getD, hf]
  · rw [if_neg e1]
    by_cases e2 : j < k
    · rw [if_pos e2, if_pos (by omega)]
    · rw [if_neg e2, if_neg (by omega)]
theorem Filled.put2 {f f' : α → Value} (h : Filled (fun x => [f x, f' x]) 2 w g t z l k) {x : α} (hx : l[k]? = some x) :
    Filled (fun x => [f x, f' x]) 2 ((w.setCell ⟨g, k * 2, none⟩ (f x)).setCell ⟨g, k * 2 + 1, none⟩ (f' x)) g t z l (k + 1) := by
  refine ⟨h.1, ((h.2.set (k * 2) (f x)).set (k * 2 + 1) (f' x)).congr fun j hj => ?_⟩
  have hf := flatMap_at h.1 l k x 0 hx (by omega)
  have hf' := flatMap_at h.1 l k x 1 hx (by omega)
  simp only [Nat.add_zero] at hf
  by_cases e1 : j = k * 2 + 1
  · subst e1
    rw [if_pos rfl, if_pos (by omega)]
    simp [List.getD, hf']
  · rw [if_neg e1]
    by_cases e0 : j = k * 2
    · subst e0
      rw [if_pos rfl, if_pos (by omega)]
      simp [List.getD, hf]
    · rw [if_neg e0]
      by_cases e2 : j < k * 2
      · rw [if_pos e2, if_pos (by omega)]
      · rw [if_neg e2, if_neg (by omega)]
theorem Filled.put3 {f f' f'' : α → Value} (h : Filled (fun x => [f x, f' x, f'' x]) 3 w g t z l k) {x : α} (hx : l[k]? = some x) :
    Filled (fun x => [f x, f' x, f'' x]) 3 (((w.setCell ⟨g, k * 3, none⟩ (f x)).setCell ⟨g, k * 3 + 1, none⟩ (f' x)).setCell ⟨g, k * 3 + 2, none⟩ (f'' x)) g t z l (k + 1) := by
  refine ⟨h.1, (((h.2.set (k * 3) (f x)).set (k * 3 + 1) (f' x)).set (k * 3 + 2) (f'' x)).congr fun j hj => ?_⟩
  have hf := flatMap_at h.1 l k x 0 hx (by omega)
  have hf' := flatMap_at h.1 l k x 1 hx (by omega)
  have hf'' := flatMap_at h.1 l k x 2 hx (by omega)
  simp only [Nat.add_zero] at hf
  by_cases e3 : j = k * 3 + 2
  · subst e3
    rw [if_pos rfl, if_pos (by omega)]
    simp [List.getD, hf'']
  · rw [if_neg e3]
    by_cases e1 : j = k * 3 + 1
    · subst e1
      rw [if_pos rfl, if_pos (by omega)]
      simp [List.getD, hf']
    · rw [if_neg e1]
      by_cases e0 : j = k * 3
      · subst e0
        rw [if_pos rfl, if_pos (by omega)]
        simp [List.getD, hf]
      · rw [if_neg e0]
        by_cases e2 : j < k * 3
        · rw [if_pos e2, if_pos (by omega)]
        · rw [if_neg e2, if_neg (by omega)]
end

/-! ### 'for all of the list' as a Bool -/
theorem all_bad {p : Nat → Bool} {n k : Nat} (hk : k < n) (h : p k = false) (x : Bool) : ((List.range n).all p && x) = false := by
  have : (List.range n).all p = false := by
    rw [Bool.eq_false_iff]
    intro ha
    rw [List.all_eq_true] at ha
    rw [ha k (List.mem_range.2 hk)] at h
    cases h
  rw [this]; rfl
theorem all_good {p : Nat → Bool} {n : Nat} (h : ∀ j, j < n → p j = true) (x : Bool) : ((List.range n).all p && x) = x := by
  have : (List.range n).all p = true := List.all_eq_true.2 fun j hj => h j (List.mem_range.1 hj)
  rw [this]; rfl
theorem upto_succ {p : Nat → Prop} {k : Nat} (h : ∀ j, j < k → p j) (hk : p k) : ∀ j, j < k + 1 → p j := fun j hj => by
  rcases Nat.lt_succ_iff_lt_or_eq.1 hj with h' | rfl
  · exact h j h'
  · exact hk
/-- The sum of f over the numbers below k. -/
def sumTo (f : Nat → Int) : Nat → Int
  | 0 => 0
  | k + 1 => sumTo f k + f k
theorem sumTo_congr {f g : Nat → Int} : ∀ {k : Nat}, (∀ j, j < k → f j = g j) → sumTo f k = sumTo g k
  | 0, _ => rfl
  | k + 1, h => by rw [sumTo, sumTo, sumTo_congr (fun j hj => h j (by omega)), h k (by omega)]
theorem sumTo_bd {f : Nat → Int} {B : Int} : ∀ {k : Nat}, (∀ j, j < k → 0 ≤ f j ∧ f j ≤ B) → 0 ≤ sumTo f k ∧ sumTo f k ≤ (k : Int) * B
  | 0, _ => by simp [sumTo]
  | k + 1, h => by
    have h1 := sumTo_bd (f := f) (B := B) (k := k) (fun j hj => h j (by omega))
    have h2 := h k (by omega)
    rw [sumTo, show ((k + 1 : Nat) : Int) = (k : Int) + 1 by omega, Int.add_mul, Int.one_mul]
    omega
theorem decLe (a b : Nat) : decide ((a : Int) ≤ (b : Int)) = decide (a ≤ b) := decide_eq_decide.2 (by omega)
theorem ret_bool {a b : Bool} (h : a = b) : Ending.returned (.bool a) = .returned (.bool b) := by rw [h]
theorem ret_int {k : IntKind} {a b : Int} (h : a = b) : Ending.returned (.int k a) = .returned (.int k b) := by rw [h]

end Go.Proofs.Ytegbannlhcgfaaa
