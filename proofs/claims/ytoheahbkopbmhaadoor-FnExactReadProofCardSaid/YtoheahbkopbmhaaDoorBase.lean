/- Plain words for slices that read as lists, kept over worlds that only grow. -/
import Derived.WalkKit
import Derived.ProofKit
import Derived.OpenShut
import Derived.Handy
import Derived.Lib.Hide
import Derived.Deep.LoopGhost
import Derived.Deep.OwnRows
import Derived.Laws.OwnMore
import Derived.Deep.Draws
import Derived.Deep.QuietTactic
import Derived.BigQuiet
import Derived.Deep.RegionWith
import Derived.WalkSpells
import Derived.WalkLawsBesides
import Derived.Deep.Slices
import Derived.Deep.Fields
import Derived.ChangeSame
namespace Go.Proofs.YtoheahbkopbmhaaDoor
set_option linter.unusedVariables false
set_option linter.unusedSimpArgs false
open Go.ChangeShapes Go.WideShapes Go.ChangeAt Go.RowKit Go.Deep

def I64 (x : Int) : Prop := -9223372036854775808 ≤ x ∧ x ≤ 9223372036854775807

/-! ### Worlds -/
theorem bcell {W w1 : World} (hb : Below W.heap.size W w1) : (∀ b o, b < W.heap.size → w1.cell? ⟨b, o, none⟩ = W.cell? ⟨b, o, none⟩) ∧ (∀ b o, b < W.heap.size → w1.frozen? ⟨b, o, none⟩ = W.frozen? ⟨b, o, none⟩) :=
  ⟨fun b o h => hb.cell (p := ⟨b, o, none⟩) h, fun b o h => hb.frozen (p := ⟨b, o, none⟩) h⟩
theorem below_drewN {B : Nat} {a w : World} (h : Below B a w) (n : Nat) : Below B a (w.drewN n) := ⟨h.os, h.tape, h.output, h.size, h.block⟩
theorem below_then {B : Nat} {a W w1 : World} (h1 : Below W.heap.size W w1) (h0 : Below B a W) (hB : B ≤ W.heap.size) : Below B a w1 := h0.trans (h1.mono hB)

theorem below_alloc {a W : World} (h0 : Below a.heap.size a W) (o : Obj) : Below a.heap.size a (W.alloc o) := h0.alloc h0.size o
theorem below_go {a W w1 : World} (h0 : Below a.heap.size a W) (h1 : Below W.heap.size W w1) : Below a.heap.size a w1 := h0.trans (h1.mono h0.size)

/-- A block of the call's own that is known from its head on (a boxed struct, a local). -/
def Box (w : World) (b : Nat) (cs : List Value) : Prop := ∀ i v, cs[i]? = some v → w.cell? ⟨b, i, none⟩ = some v
theorem Box.new (w : World) (cs : List Value) (t : TypeId) : Box (w.alloc (.cells ⟨cs⟩ t)) w.heap.size cs := fun i v h => by
  have := cell_of_row (w.alloc (.cells ⟨cs⟩ t)) w.heap.size i ⟨cs⟩ t (0, 0) (heap_alloc_new w _)
  rw [this]
  simpa using h
theorem Box.at_ (w : World) (cs : List Value) (t : TypeId) {b : Nat} (h : b = w.heap.size) : Box (w.alloc (.cells ⟨cs⟩ t)) b cs := by subst h; exact Box.new w cs t
theorem Box.up {w w1 : World} {b : Nat} {cs : List Value} (h : Box w b cs) (hb : Below w.heap.size w w1) : Box w1 b cs := fun i v hv => by
  have h1 := h i v hv
  exact (hb.cell (World.block_lt_of_cell? w _ h1)).trans h1
theorem Box.alloc {w : World} {b : Nat} {cs : List Value} (h : Box w b cs) (o : Obj) : Box (w.alloc o) b cs := h.up ((Below.refl _ _).alloc (Nat.le_refl _) _)
theorem Box.below {B : Nat} {w w1 : World} {b : Nat} {cs : List Value} (h : Box w b cs) (hb : Below B w w1) (hB : b < B) : Box w1 b cs := fun i v hv => (hb.cell (p := ⟨b, i, none⟩) hB).trans (h i v hv)
theorem Box.drewN {w : World} {b : Nat} {cs : List Value} (h : Box w b cs) (n : Nat) : Box (w.drewN n) b cs := h

/-- A block of the call's own that is known whole, none of its cells frozen. -/
def Blk (w : World) (g : Nat) (t : TypeId) (cs : List Value) : Prop := w.heap[g]? = some (.cells ⟨cs⟩ t (0, 0))
section
variable {w w' : World} {g : Nat} {t : TypeId} {cs : List Value}
theorem Blk.lt (h : Blk w g t cs) : g < w.heap.size := (Array.getElem?_eq_some_iff.1 h).1
theorem Blk.cell (h : Blk w g t cs) (i : Nat) : w.cell? ⟨g, i, none⟩ = cs[i]? := by
  have := cell_of_row w g i ⟨cs⟩ t (0, 0) h
  rw [this]; simp
theorem Blk.frozen (h : Blk w g t cs) (i : Nat) : w.frozen? ⟨g, i, none⟩ = false := by
  unfold Blk at h
  simp [World.frozen?, h]
theorem Blk.at_ (w : World) (t : TypeId) (cs : List Value) {b : Nat} (h : b = w.heap.size) : Blk (w.alloc (.cells ⟨cs⟩ t)) b t cs := by subst h; exact heap_alloc_new w _
theorem Blk.up (h : Blk w g t cs) (hb : Below w.heap.size w w') : Blk w' g t cs := (hb.block g h.lt).trans h
theorem Blk.below {B : Nat} (h : Blk w g t cs) (hb : Below B w w') (hg : g < B) : Blk w' g t cs := (hb.block g hg).trans h
theorem Blk.alloc (h : Blk w g t cs) (o : Obj) : Blk (w.alloc o) g t cs := h.up ((Below.refl _ _).alloc (Nat.le_refl _) o)
theorem Blk.drewN (h : Blk w g t cs) (n : Nat) : Blk (w.drewN n) g t cs := h
theorem Blk.set_ (h : Blk w g t cs) (i : Nat) (u : Value) : Blk (w.setCell ⟨g, i, none⟩ u) g t (cs.set i u) := by
  unfold Blk at h ⊢
  simp [World.setCell, Array.getElem?_modify, h]
theorem Blk.far (h : Blk w g t cs) {p : Addr} (hp : g ≠ p.block) (u : Value) : Blk (w.setCell p u) g t cs := (Below.heap_setCell w p u g hp).trans h
theorem Blk.grown {row : Option Nat} (h : Blk w g t cs) (hb : w.grownBy w' row) (hg : some g ≠ row) : Blk w' g t cs := (hb.block g h.lt hg).trans h
end

theorem quiet_add_left {P : Program} {f : FuncId} {args : Array Value} {w : World} {a n : Nat} {v : Value}
    (h : Calls P f args (w.drewN (a + n)) fun e w' => e = .returned v ∧ w.drewN (a + n) = w') :
    Calls P f args (w.drewN (a + n)) fun e w'' => e = .returned v ∧ ∃ m, w'' = w.drewN (a + m) :=
  h.mono fun _ _ ⟨he, hm⟩ => ⟨he, n, hm.symm⟩
theorem quiet_left {P : Program} {f : FuncId} {args : Array Value} {w : World} {n : Nat} {v : Value}
    (h : Calls P f args (w.drewN n) fun e w' => e = .returned v ∧ w.drewN n = w') : Calls P f args (w.drewN n) fun e w'' => e = .returned v ∧ ∃ m, w'' = w.drewN m :=
  h.mono fun _ _ ⟨he, hm⟩ => ⟨he, n, hm.symm⟩

/-! ### Slices that read as lists -/
/-- The slice with address A and n elements of 'size' cells reads as the cells xs. -/
def Rd (w : World) (A : Option Addr) (size n : Nat) (xs : List Value) : Prop :=
  xs.length = n * size ∧ (0 < n → ∃ b off, A = some ⟨b, off, none⟩ ∧ b < w.heap.size ∧ ∀ j u, xs[j]? = some u → w.cell? ⟨b, off + j, none⟩ = some u)

section
variable {w w' : World} {size n : Nat} {A : Option Addr} {xs : List Value}
theorem Rd.none_ (w : World) (A : Option Addr) (size : Nat) : Rd w A size 0 [] := ⟨by simp, fun h => absurd h (by omega)⟩
theorem Rd.below {B : Nat} (h : Rd w A size n xs) (hb : Below B w w') (hB : w.heap.size ≤ B) : Rd w' A size n xs :=
  ⟨h.1, fun hn => by
    obtain ⟨b, off, e, hlt, hc⟩ := h.2 hn
    exact ⟨b, off, e, Nat.lt_of_lt_of_le hlt hb.size, fun j u hu => (hb.cell (p := ⟨b, off + j, none⟩) (by show b < B; omega)).trans (hc j u hu)⟩⟩
theorem Rd.up (h : Rd w A size n xs) (hb : Below w.heap.size w w') : Rd w' A size n xs := h.below hb (Nat.le_refl _)
theorem Rd.at1 {k : Nat} (h : Rd w A 1 n xs) (hk : k < n) : ∃ b off u, A = some ⟨b, off, none⟩ ∧ b < w.heap.size ∧ xs[k]? = some u ∧ w.cell? ⟨b, off + k, none⟩ = some u := by
  obtain ⟨b, off, e, hb, hc⟩ := h.2 (by omega)
  have hl : k < xs.length := by have := h.1; omega
  exact ⟨b, off, xs[k], e, hb, List.getElem?_eq_getElem hl, hc k _ (List.getElem?_eq_getElem hl)⟩
/-- A row of the call's own, known cell by cell. -/
theorem Rd.of_row {b : Nat} {t : TypeId} {f : Nat → Value} (h : w.rowIs b t (n * size) f) (hl : xs.length = n * size) (hf : ∀ j, j < n * size → f j = xs.getD j undef) : Rd w (some ⟨b, 0, none⟩) size n xs := by
  refine ⟨hl, fun _ => ⟨b, 0, rfl, h.lt, fun j u hu => ?_⟩⟩
  have hj : j < n * size := by
    have := (List.getElem?_eq_some_iff.1 hu).1
    omega
  have := h.cell hj
  rw [hf j hj] at this
  rw [Nat.zero_add, this]
  simp [List.getD, hu]
theorem Rd.of_own {base : Nat} {e : TypeId} {c : Nat} (h : w.ownsRow base e size (.slice A n c) n xs) : Rd w A size n xs := by
  refine ⟨h.1, fun hn => ?_⟩
  rcases h.2 with ⟨_, h0⟩ | ⟨g, cap, cur, hv, hg, hh, hnc, hcap, hsz, htake⟩
  · omega
  · have hA : A = some ⟨g, 0, none⟩ := by injection hv
    subst hA
    refine ⟨g, 0, rfl, ?_, fun j u hu => ?_⟩
    · exact (Array.getElem?_eq_some_iff.1 hh).1
    · have := h.cells (g := g) rfl j u hu
      rwa [Go.WideShapes.add_plain] at this
end

/-! ### Slices of records: every element is laid as 'e' lays it -/
theorem flatMap_at {α : Type} {e : α → List Value} {s : Nat} (he : ∀ x, (e x).length = s) : ∀ (l : List α) (k : Nat) (x : α) (j : Nat), l[k]? = some x → j < s → (l.flatMap e)[k * s + j]? = (e x)[j]?
  | [], k, x, j, h, _ => by simp at h
  | y :: l, 0, x, j, h, hj => by
    simp at h
    subst h
    rw [List.flatMap_cons, Nat.zero_mul, Nat.zero_add, List.getElem?_append_left (by rw [he]; exact hj)]
  | y :: l, k + 1, x, j, h, hj => by
    rw [List.flatMap_cons, List.getElem?_append_right (by rw [he, Nat.succ_mul]; omega), he]
    rw [show (k + 1) * s + j - s = k * s + j by rw [Nat.succ_mul]; omega]
    exact flatMap_at he l k x j (by simpa using h) hj
theorem flatMap_len {α : Type} {e : α → List Value} {s : Nat} (he : ∀ x, (e x).length = s) (l : List α) : (l.flatMap e).length = l.length * s := by
  induction l with
  | nil => simp
  | cons y l ih => rw [List.flatMap_cons, List.length_append, he, ih, List.length_cons, Nat.succ_mul]; omega

def Recs {α : Type} (e : α → List Value) (s : Nat) (w : World) (A : Option Addr) (l : List α) : Prop := (∀ x, (e x).length = s) ∧ Rd w A s l.length (l.flatMap e)
section
variable {α : Type} {e : α → List Value} {s : Nat} {w w' : World} {A : Option Addr} {l : List α}
theorem Recs.up (h : Recs e s w A l) (hb : Below w.heap.size w w') : Recs e s w' A l := ⟨h.1, h.2.up hb⟩
theorem Recs.below {B : Nat} (h : Recs e s w A l) (hb : Below B w w') (hB : w.heap.size ≤ B) : Recs e s w' A l := ⟨h.1, h.2.below hb hB⟩
theorem Recs.cells (h : Recs e s w A l) (hn : 0 < l.length) : ∃ b off, A = some ⟨b, off, none⟩ ∧ b < w.heap.size ∧ ∀ (k : Nat) (x : α) (j : Nat) (u : Value), l[k]? = some x → (e x)[j]? = some u → w.cell? ⟨b, off + k * s + j, none⟩ = some u := by
  obtain ⟨b, off, hA, hb, hc⟩ := h.2.2 hn
  refine ⟨b, off, hA, hb, fun k x j u hk hu => ?_⟩
  have hj : j < s := by rw [← h.1 x]; exact (List.getElem?_eq_some_iff.1 hu).1
  rw [Nat.add_assoc]
  exact hc _ _ ((flatMap_at h.1 l k x j hk hj).trans hu)
theorem some_of_lt {k : Nat} (hk : k < l.length) : ∃ x, l[k]? = some x := ⟨l[k], List.getElem?_eq_getElem hk⟩
end

/-! ### Numbers, texts, bools: one cell each -/
def intE (z : Int) : List Value := [.int .i64 z]
def strE (s : ByteArray) : List Value := [.string s]
def boolE (b : Bool) : List Value := [.bool b]
theorem intE_len (z : Int) : (intE z).length = 1 := rfl
theorem strE_len (s : ByteArray) : (strE s).length = 1 := rfl
theorem boolE_len (b : Bool) : (boolE b).length = 1 := rfl
theorem intE_one (z : Int) : ∀ u ∈ intE z, u.oneCell' = true := fun u hu => by simp [intE] at hu; subst hu; rfl
theorem strE_one (z : ByteArray) : ∀ u ∈ strE z, u.oneCell' = true := fun u hu => by simp [strE] at hu; subst hu; rfl
theorem boolE_one (z : Bool) : ∀ u ∈ boolE z, u.oneCell' = true := fun u hu => by simp [boolE] at hu; subst hu; rfl
theorem flatMap_one {α : Type} (f : α → Value) (l : List α) : l.flatMap (fun x => [f x]) = l.map f := by
  induction l with
  | nil => rfl
  | cons y l ih => simp [ih]
abbrev Ints := Recs intE 1
abbrev Strs := Recs strE 1
abbrev Bools := Recs boolE 1
section
variable {w : World} {A : Option Addr}
theorem Recs.at_int {l : List Int} {k : Nat} (h : Ints w A l) (hk : k < l.length) : ∃ b off x, A = some ⟨b, off, none⟩ ∧ b < w.heap.size ∧ l[k]? = some x ∧ w.cell? ⟨b, off + k, none⟩ = some (.int .i64 x) := by
  obtain ⟨b, off, hA, hb, hc⟩ := h.cells (by omega)
  obtain ⟨x, hx⟩ := some_of_lt hk
  exact ⟨b, off, x, hA, hb, hx, by simpa using hc k x 0 _ hx rfl⟩
theorem Recs.at_str {l : List ByteArray} {k : Nat} (h : Strs w A l) (hk : k < l.length) : ∃ b off x, A = some ⟨b, off, none⟩ ∧ b < w.heap.size ∧ l[k]? = some x ∧ w.cell? ⟨b, off + k, none⟩ = some (.string x) := by
  obtain ⟨b, off, hA, hb, hc⟩ := h.cells (by omega)
  obtain ⟨x, hx⟩ := some_of_lt hk
  exact ⟨b, off, x, hA, hb, hx, by simpa using hc k x 0 _ hx rfl⟩
theorem Recs.at_bool {l : List Bool} {k : Nat} (h : Bools w A l) (hk : k < l.length) : ∃ b off x, A = some ⟨b, off, none⟩ ∧ b < w.heap.size ∧ l[k]? = some x ∧ w.cell? ⟨b, off + k, none⟩ = some (.bool x) := by
  obtain ⟨b, off, hA, hb, hc⟩ := h.cells (by omega)
  obtain ⟨x, hx⟩ := some_of_lt hk
  exact ⟨b, off, x, hA, hb, hx, by simpa using hc k x 0 _ hx rfl⟩
theorem Recs.at_2 {α : Type} {f g : α → Value} {l : List α} {k : Nat} {x : α} (h : Recs (fun x => [f x, g x]) 2 w A l) (hx : l[k]? = some x) :
    ∃ b off, A = some ⟨b, off, none⟩ ∧ b < w.heap.size ∧ w.cell? ⟨b, off + k * 2, none⟩ = some (f x) ∧ w.cell? ⟨b, off + k * 2 + 1, none⟩ = some (g x) := by
  have hk := (List.getElem?_eq_some_iff.1 hx).1
  obtain ⟨b, off, hA, hb, hc⟩ := h.cells (by omega)
  exact ⟨b, off, hA, hb, by simpa using hc k x 0 _ hx rfl, hc k x 1 _ hx rfl⟩
theorem Recs.at_3 {α : Type} {f g q : α → Value} {l : List α} {k : Nat} {x : α} (h : Recs (fun x => [f x, g x, q x]) 3 w A l) (hx : l[k]? = some x) :
    ∃ b off, A = some ⟨b, off, none⟩ ∧ b < w.heap.size ∧ w.cell? ⟨b, off + k * 3, none⟩ = some (f x) ∧ w.cell? ⟨b, off + k * 3 + 1, none⟩ = some (g x) ∧ w.cell? ⟨b, off + k * 3 + 2, none⟩ = some (q x) := by
  have hk := (List.getElem?_eq_some_iff.1 hx).1
  obtain ⟨b, off, hA, hb, hc⟩ := h.cells (by omega)
  exact ⟨b, off, hA, hb, by simpa using hc k x 0 _ hx rfl, hc k x 1 _ hx rfl, hc k x 2 _ hx rfl⟩
end

/-! ### Rows of the call's own -/
/-- The slice with address A, n elements and capacity c is a row of the call's own (a block from 'base' on, not frozen), or nil; its elements are those of l. -/
def Owned {α : Type} (e : α → List Value) (s : Nat) (E : TypeId) (w : World) (base : Nat) (A : Option Addr) (n c : Nat) (l : List α) : Prop :=
  (∀ x, (e x).length = s) ∧ l.length = n ∧ w.ownsRow base E s (.slice A n c) n (l.flatMap e)
theorem flatMap_set {α : Type} {e : α → List Value} {s : Nat} (he : ∀ x, (e x).length = s) {l : List α} {k j : Nat} {x y : α} {u : Value} (hk : l[k]? = some y) (hj : j < s) (hx : e x = (e y).set j u) :
    (l.flatMap e).set (k * s + j) u = (l.set k x).flatMap e := by
  have hkl : k < l.length := (List.getElem?_eq_some_iff.1 hk).1
  have hs : 0 < s := by omega
  apply List.ext_getElem?
  intro i
  by_cases hi : i < l.length * s
  · have hdm : i / s * s + i % s = i := Nat.div_add_mod' i s
    have hq : i / s < l.length := Nat.div_lt_of_lt_mul (by rw [Nat.mul_comm]; exact hi)
    have hr := Nat.mod_lt i hs
    rw [List.getElem?_set]
    by_cases hik : i / s = k
    · have h2 : ((l.set k x).flatMap e)[i]? = (e x)[i % s]? := by
        have := flatMap_at he (l.set k x) k x (i % s) (by rw [List.getElem?_set_self hkl]) hr
        rw [← hik, hdm] at this
        rwa [hik] at this
      rw [h2, hx, List.getElem?_set]
      have h3 : (l.flatMap e)[i]? = (e y)[i % s]? := by
        have := flatMap_at he l k y (i % s) hk hr
        rw [← hik, hdm] at this
        exact this
      by_cases hij : j = i % s
      · rw [if_pos (by rw [hij, ← hik, hdm]), if_pos hij, if_pos (by rw [flatMap_len he, hij, ← hik, hdm]; exact hi), if_pos (by rw [he]; exact hj)]
      · rw [if_neg (fun e1 => hij (by rw [← hik] at e1; omega)), if_neg hij, h3]
    · have h1 : k * s + j ≠ i := fun e1 => hik (by
        rw [← e1, Nat.mul_comm, Nat.mul_add_div hs, Nat.div_eq_of_lt hj, Nat.add_zero])
      rw [if_neg h1]
      obtain ⟨z, hz⟩ : ∃ z, l[i / s]? = some z := ⟨l[i / s], List.getElem?_eq_getElem hq⟩
      have a1 := flatMap_at he l (i / s) z (i % s) hz hr
      have a2 := flatMap_at he (l.set k x) (i / s) z (i % s) (by rw [List.getElem?_set_ne (fun e1 => hik e1.symm)]; exact hz) hr
      rw [hdm] at a1 a2
      rw [a1, a2]
  · rw [List.getElem?_eq_none (by rw [List.length_set, flatMap_len he]; omega), List.getElem?_eq_none (by rw [flatMap_len he, List.length_set]; omega)]

section
variable {α : Type} {e : α → List Value} {s : Nat} {E : TypeId} {w w' : World} {base : Nat} {A : Option Addr} {n c : Nat} {l : List α}
theorem Owned.nil (he : ∀ x, (e x).length = s) (E : TypeId) (w : World) (base : Nat) : Owned e s E w base none 0 0 ([] : List α) := ⟨he, rfl, World.ownsRow_nil _ _ _ _⟩
theorem Owned.empty (he : ∀ x, (e x).length = s) (E : TypeId) (w : World) (hb : base ≤ w.heap.size) : Owned e s E (w.alloc (.cells #[] E)) base (some ⟨w.heap.size, 0, none⟩) 0 0 ([] : List α) :=
  ⟨he, rfl, by simpa using World.ownsRow_lit (e := E) (base := base) (size := s) w #[] 0 hb (Nat.zero_le _) (by simp)⟩
theorem Owned.recs (h : Owned e s E w base A n c l) : Recs e s w A l := ⟨h.1, by rw [h.2.1]; exact Rd.of_own h.2.2⟩
theorem Owned.len (h : Owned e s E w base A n c l) : l.length = n := h.2.1
theorem Owned.blk (h : Owned e s E w base A n c l) {k : Nat} (hk : (Value.slice A n c).ownBlock = some k) : base ≤ k ∧ k < w.heap.size := h.2.2.lt k hk
theorem Owned.kept (h : Owned e s E w base A n c l) {row : Option Nat} (hg : w.grownBy w' row) (hne : ∀ k, (Value.slice A n c).ownBlock = some k → row ≠ some k) : Owned e s E w' base A n c l :=
  ⟨h.1, h.2.1, h.2.2.kept hg (by
    cases hb : (Value.slice A n c).ownBlock with
    | none => exact .inl rfl
    | some k => exact .inr (fun e => hne k hb e.symm))⟩
/-- The block of a slice value, if it has one, lies between a and b. -/
def InRange (v : Value) (a b : Nat) : Prop := ∀ k, v.ownBlock = some k → a ≤ k ∧ k < b
theorem Owned.range (h : Owned e s E w base A n c l) : InRange (.slice A n c) base w.heap.size := fun k hk => h.blk hk
theorem InRange.ne {v v' : Value} {a b a' b' : Nat} (h : InRange v a b) (h' : InRange v' a' b') (hd : b ≤ a' ∨ b' ≤ a) : ∀ k, v.ownBlock = some k → v'.ownBlock ≠ some k := fun k hk ek => by
  have b1 := h k hk
  have b2 := h' k ek
  omega
/-- A row below which 'base' lies above another block: that block may be written. -/
theorem Owned.past (h : Owned e s E w base A n c l) {g : Nat} (hg : w.grownBy w' (some g)) (hlt : g < base) : Owned e s E w' base A n c l :=
  h.kept hg fun k hk e => by
    have := (h.blk hk).1
    injection e with e
    omega
theorem grown_of_below (hb : Below w.heap.size w w') : w.grownBy w' none := ⟨hb.os, hb.tape, hb.output, hb.size, fun k hk _ => hb.block k hk⟩
theorem Owned.up (h : Owned e s E w base A n c l) (hb : Below w.heap.size w w') : Owned e s E w' base A n c l := h.kept (grown_of_below hb) (fun k hk e => by cases e)
theorem Owned.alloc (h : Owned e s E w base A n c l) (o : Obj) : Owned e s E (w.alloc o) base A n c l := h.up ((Below.refl _ _).alloc (Nat.le_refl _) o)
theorem Owned.drewN (h : Owned e s E w base A n c l) (k : Nat) : Owned e s E (w.drewN k) base A n c l := h.up (below_drewN (Below.refl _ _) k)
theorem Owned.base_le {base' : Nat} (h : Owned e s E w base A n c l) (hb : base' ≤ base) : Owned e s E w base' A n c l := by
  refine ⟨h.1, h.2.1, h.2.2.1, ?_⟩
  rcases h.2.2.2 with h0 | ⟨g, cap, cur, hv, hg, r⟩
  · exact .inl h0
  · exact .inr ⟨g, cap, cur, hv, Nat.le_trans hb hg, r⟩
theorem Owned.of_row {v : Value} {xs : List Value} (he : ∀ x, (e x).length = s) (h : w.ownsRow base E s v n xs) (hx : xs = l.flatMap e) (hl : l.length = n) : ∃ A c, v = .slice A n c ∧ Owned e s E w base A n c l := by
  subst hx
  rcases h.2 with ⟨rfl, h0⟩ | ⟨g, cap, cur, rfl, hg, r⟩
  · subst h0
    exact ⟨none, 0, rfl, he, hl, h⟩
  · exact ⟨some ⟨g, 0, none⟩, cap, rfl, he, hl, h⟩
/-- Where there is an element the row lies at the head of a block. -/
theorem Owned.at_ (h : Owned e s E w base A n c l) (hn : 0 < n) : ∃ g, A = some ⟨g, 0, none⟩ ∧ base ≤ g ∧ g < w.heap.size ∧ (∀ (k : Nat) (x : α) (j : Nat) (u : Value), l[k]? = some x → (e x)[j]? = some u → w.cell? ⟨g, k * s + j, none⟩ = some u) ∧ ∀ i, w.frozen? ⟨g, i, none⟩ = false := by
  rcases h.2.2.2 with ⟨_, h0⟩ | ⟨g, cap, cur, hv, hg, hh, r⟩
  · omega
  · injection hv with hA _ hc
    subst hA; subst hc
    refine ⟨g, rfl, hg, (Array.getElem?_eq_some_iff.1 hh).1, fun k x j u hk hu => ?_, fun i => h.2.2.frozenAt i⟩
    have hj : j < s := by rw [← h.1 x]; exact (List.getElem?_eq_some_iff.1 hu).1
    have hkl : k < l.length := (List.getElem?_eq_some_iff.1 hk).1
    have hlt : k * s + j < n * s := by
      rw [← h.2.1]
      calc k * s + j < k * s + s := by omega
        _ = (k + 1) * s := by rw [Nat.succ_mul]
        _ ≤ l.length * s := Nat.mul_le_mul_right _ hkl
    rw [h.2.2.cellAt _ hlt]
    exact (flatMap_at h.1 l k x j hk hj).trans hu
theorem Owned.at_own {g : Nat} (h : Owned e s E w base (some ⟨g, 0, none⟩) n c l) : base ≤ g ∧ g < w.heap.size := h.blk rfl
/-- A store into field j of element k. -/
theorem Owned.put {g : Nat} (h : Owned e s E w base (some ⟨g, 0, none⟩) n c l) {k j : Nat} {x y : α} {u : Value} (hk : l[k]? = some y) (hj : j < s) (hx : e x = (e y).set j u) :
    Owned e s E (w.setCell ⟨g, k * s + j, none⟩ u) base (some ⟨g, 0, none⟩) n c (l.set k x) ∧ w.grownBy (w.setCell ⟨g, k * s + j, none⟩ u) (some g) := by
  obtain ⟨h1, h2⟩ := h.2.2.stored (k * s + j) u
  refine ⟨⟨h.1, by rw [List.length_set]; exact h.2.1, ?_⟩, h2⟩
  rw [← flatMap_set h.1 hk hj hx]
  exact h1
theorem Owned.made (he : ∀ x, (e x).length = s) (w : World) (E : TypeId) (z : α) (n : Nat) (hn : n ≤ 140737488355328) (hb : base ≤ w.heap.size) :
    Owned e s E (w.alloc (.cells (madeCells (e z).toArray (n * s)) E)) base (some ⟨w.heap.size, 0, none⟩) n n (List.replicate n z) := by
  refine ⟨he, by simp, ?_⟩
  have h := World.ownsRow_lit (e := E) (base := base) (size := s) w (madeCells (e z).toArray (n * s)) n hb (by unfold maxLen; omega) (by simp [madeCells])
  have e1 : (madeCells (e z).toArray (n * s)).toList = (List.replicate n z).flatMap e := by
    apply List.ext_getElem?
    intro i
    by_cases hi : i < n * s
    · have hs : 0 < s := by
        rcases Nat.eq_zero_or_pos s with h | h
        · subst h; omega
        · exact h
      have hdm : i / s * s + i % s = i := Nat.div_add_mod' i s
      have hq : i / s < n := Nat.div_lt_of_lt_mul (by rw [Nat.mul_comm]; exact hi)
      have a1 := flatMap_at he (List.replicate n z) (i / s) z (i % s) (by simp [hq]) (Nat.mod_lt i hs)
      rw [hdm] at a1
      rw [a1]
      have hm : i % s < (e z).length := by rw [he]; exact Nat.mod_lt i hs
      simp [madeCells, hi, he, List.getElem?_eq_getElem hm]
    · rw [List.getElem?_eq_none (by simp [madeCells]; omega), List.getElem?_eq_none (by rw [flatMap_len he]; simp; omega)]
  rw [← e1]
  exact h
end

theorem only_set (w : World) {p : Addr} (u : Value) : w.grownBy (w.setCell p u) (some p.block) :=
  ⟨rfl, rfl, rfl, by simp, fun k _ hk => Below.heap_setCell w p u k (fun e => hk (by rw [e]))⟩
/-- What is known of a slice type: its element's type, cells and bytes. -/
structure ElemOk (P : Program) (t E : TypeId) (z : Value) (s bytes : Nat) : Prop where
  under : P.underlying t = some (.slice E)
  info : (P.info? E).map (fun i => (i.zero, i.size, i.bytes)) = some (some z, s, bytes)
  zs : z.cells.size = s
  pos : 0 < s
/-- 'append(xs, x)' onto a row of the call's own. -/
theorem wpList_append_rec {P : Program} {α : Type} {e : α → List Value} {s bytes : Nat} {t E : TypeId} {z : Value} (he : ElemOk P t E z s bytes) {ops : Array Oper} {rest : List Oper} {o : Oper} {a : Act} {Q : Exit → Act → World → Prop} {W : World}
    (hgd : o.guard = none) (S X : Operand) (ho : o.op = .call { callee := .builtin .append, args := #[S, X], argTypes := #[t, t] })
    {base : Nat} {A : Option Addr} {n c : Nat} {l : List α} (hs : a.eval S = .slice A n c) (hown : Owned e s E W base A n c l) (x : α) {b cx : Nat} (hx : a.eval X = .slice (some ⟨b, 0, none⟩) 1 cx)
    (hnew : Box W b (e x)) (h1 : ∀ u ∈ e x, u.oneCell' = true) (hn : n ≤ 16777216) (hby : bytes ≤ 4096) (hbase : base ≤ W.heap.size)
    (h : ∀ A' c' w', Owned e s E w' base A' (n + 1) c' (l ++ [x]) → W.grownBy w' (Value.slice A n c).ownBlock → Below base W w' → wpList P ops Q rest (a.put o.dst (.slice A' (n + 1) c')) w') :
    wpList P ops Q (o :: rest) a W := by
  obtain ⟨i0, hi, hz0, hz1, hz2⟩ := info_parts he.info
  refine wpList_append_own W hgd S X t ho base E i0 z s bytes he.under hi hz0 hz1 hz2 he.zs he.pos _ n _ hs hown.2.2 ⟨b, 0, none⟩ 1 cx (e x) hx (by rw [hown.1]; omega)
    (fun j u hu => by rw [Go.WideShapes.add_plain, Nat.zero_add]; exact hnew j u hu) h1 (by unfold maxLen; omega) ?_ hbase ?_
  · exact Nat.le_trans (Nat.mul_le_mul (show n + 1 ≤ 16777217 by omega) hby) (by decide)
  · intro v' w' hown' hg _
    obtain ⟨A', c', rfl, ho'⟩ := Owned.of_row (l := l ++ [x]) hown.1 hown' (by simp) (by simp [hown.2.1])
    exact h A' c' w' ho' hg ((Below.refl _ _).grown hg hbase fun k hk => (hown.blk hk).1)
/-- 'make([]T, n)': an equation for every world. -/
theorem run_make_rec {P : Program} {α : Type} {e : α → List Value} {s bytes : Nat} {t E : TypeId} {z : Value} (he : ElemOk P t E z s bytes) (z0 : α) (hz : z.cells = (e z0).toArray) (n : Nat) (hn : n ≤ 16777216) (hby : bytes ≤ 4096) :
    ∀ u : World, (Instr.makeSlice t (.int .i64 (n : Int)) (.int .i64 (n : Int))).run P u = .ok (.slice (some ⟨u.heap.size, 0, none⟩) n n) (u.alloc (.cells (madeCells (e z0).toArray (n * s)) E)) := fun u => by
  obtain ⟨i0, hi, hz0, hz1, hz2⟩ := info_parts he.info
  have hb : (i0.bytes : Int) * (n : Int) ≤ 281474976710656 := by
    have h : i0.bytes * n ≤ 4096 * 16777216 := Nat.mul_le_mul (by omega) hn
    have h2 : ((i0.bytes * n : Nat) : Int) ≤ 281474976710656 := by omega
    rwa [Int.natCast_mul] at h2
  have h := run_make (P := P) u t E i0 z he.under hi hz0 .i64 .i64 (n : Int) (n : Int) (by omega) (Int.le_refl _) hb (by omega)
  simp only [Int.toNat_natCast, hz1, hz] at h
  exact h

/-! ### 'for all of the list' as a Bool -/
theorem all_bad {p : Nat → Bool} {n k : Nat} (hk : k < n) (h : p k = false) (x : Bool) : ((List.range n).all p && x) = false := by
  have : (List.range n).all p = false := by
    rw [Bool.eq_false_iff]
    intro ha
    rw [List.all_eq_true] at ha
    rw [ha k (List.mem_range.2 hk)] at h
    cases h
  rw [this]; rfl
theorem all_good {p : Nat → Bool} {n : Nat} (h : ∀ j, j < n → p j = true) (x : Bool) : ((List.range n).all p && x) = x := by
  have : (List.range n).all p = true := List.all_eq_true.2 fun j hj => h j (List.mem_range.1 hj)
  rw [this]; rfl
theorem upto_succ {p : Nat → Prop} {k : Nat} (h : ∀ j, j < k → p j) (hk : p k) : ∀ j, j < k + 1 → p j := fun j hj => by
  rcases Nat.lt_succ_iff_lt_or_eq.1 hj with h' | rfl
  · exact h j h'
  · exact hk
/-- The sum of f over the numbers below k. -/
def sumTo (f : Nat → Int) : Nat → Int
  | 0 => 0
  | k + 1 => sumTo f k + f k
theorem sumTo_congr {f g : Nat → Int} : ∀ {k : Nat}, (∀ j, j < k → f j = g j) → sumTo f k = sumTo g k
  | 0, _ => rfl
  | k + 1, h => by rw [sumTo, sumTo, sumTo_congr (fun j hj => h j (by omega)), h k (by omega)]
theorem sumTo_bd {f : Nat → Int} {B : Int} : ∀ {k : Nat}, (∀ j, j < k → 0 ≤ f j ∧ f j ≤ B) → 0 ≤ sumTo f k ∧ sumTo f k ≤ (k : Int) * B
  | 0, _ => by simp [sumTo]
  | k + 1, h => by
    have h1 := sumTo_bd (f := f) (B := B) (k := k) (fun j hj => h j (by omega))
    have h2 := h k (by omega)
    rw [sumTo, show ((k + 1 : Nat) : Int) = (k : Int) + 1 by omega, Int.add_mul, Int.one_mul]
    omega
theorem eq_of_upto {α : Type} {l m : List α} {k : Nat} (h : ∀ j, j < k → l[j]? = m[j]?) (h1 : l.length = k) (h2 : m.length = k) : l = m :=
  List.ext_getElem? fun j => by
    by_cases hj : j < k
    · exact h j hj
    · rw [List.getElem?_eq_none (by omega), List.getElem?_eq_none (by omega)]
theorem upto_set {α : Type} {l m : List α} {k : Nat} {x : α} (h : ∀ j, j < k → m[j]? = l[j]?) (hx : l[k]? = some x) (hm : k < m.length) : ∀ j, j < k + 1 → (m.set k x)[j]? = l[j]? := fun j hj => by
  by_cases e : j = k
  · subst e
    rw [List.getElem?_set_self hm, hx]
  · rw [List.getElem?_set_ne (fun e1 => e e1.symm)]
    exact h j (by omega)
theorem upto_mark {α : Type} {m : List α} {k : Nat} {f : Nat → α} (h : ∀ j, j < k → m[j]? = some (f j)) (hm : k < m.length) : ∀ j, j < k + 1 → (m.set k (f k))[j]? = some (f j) := fun j hj => by
  by_cases e : j = k
  · subst e
    rw [List.getElem?_set_self hm]
  · rw [List.getElem?_set_ne (fun e1 => e e1.symm)]
    exact h j (by omega)
theorem marks_eq {α : Type} {m : List α} {n : Nat} {f : Nat → α} (h : ∀ j, j < n → m[j]? = some (f j)) (hm : m.length = n) : m = (List.range n).map f :=
  eq_of_upto (k := n) (fun j hj => by rw [h j hj]; simp [hj]) hm (by simp)
theorem grownBy_trans {a b c : World} {row : Option Nat} (h : a.grownBy b row) (k : b.grownBy c row) : a.grownBy c row :=
  ⟨k.os.trans h.os, k.tape.trans h.tape, k.output.trans h.output, Nat.le_trans h.size k.size, fun i hi hne => (k.block i (Nat.lt_of_lt_of_le hi h.size) hne).trans (h.block i hi hne)⟩
theorem take_succ_some {α : Type} {l : List α} {k : Nat} {x : α} (h : l[k]? = some x) : l.take (k + 1) = l.take k ++ [x] := by
  rw [List.take_add_one, h]; rfl
theorem decLe (a b : Nat) : decide ((a : Int) ≤ (b : Int)) = decide (a ≤ b) := decide_eq_decide.2 (by omega)
theorem ret_bool {a b : Bool} (h : a = b) : Ending.returned (.bool a) = .returned (.bool b) := by rw [h]
theorem ret_int {k : IntKind} {a b : Int} (h : a = b) : Ending.returned (.int k a) = .returned (.int k b) := by rw [h]

end Go.Proofs.YtoheahbkopbmhaaDoor
